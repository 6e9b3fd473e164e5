import Derived.Test.YtdlbaonelfcahaaGreatDoorProg
import Derived.Test.YtdlbaonelfcahaaGreatDoorAmG6
set_option linter.unusedVariables false
set_option linter.unusedSimpArgs false
namespace Go.Proofs.YtdlbaonelfcahaaGreatDoor
open Go.AM
abbrev mV(d s:Nat):O:=⟨some d,none,.mov (.t s)⟩
abbrev mF(d k s:Nat):O:=⟨some d,none,.fld k (.t s)⟩
abbrev mL(d k s:Nat):O:=⟨some d,none,.load k false (.t s)⟩
abbrev mG(d k s:Nat):O:=⟨some d,none,.load k true (.t s)⟩
abbrev mX(d k s i:Nat):O:=⟨some d,none,.idxs k (.t s) (.t i)⟩
abbrev mS(k s i:Nat):O:=⟨none,none,.store k (.t s) (.t i)⟩
abbrev mC(d:Nat)(f:FuncId)(l:List X):O:=⟨some d,none,.call (.c (.fn f [] [])) l⟩
abbrev mB(d:Nat)(o:Go.BinOp)(s i:Nat):O:=⟨some d,none,.bin o .num (.t s) (.t i)⟩
abbrev mI(d:Nat)(o:Go.BinOp)(s:Nat)(k:Int):O:=⟨some d,none,.bin o .num (.t s) (.c (.int .i64 k))⟩
abbrev mK(d:Nat)(k:Int):O:=⟨some d,none,.mov (.c (.int .i64 k))⟩
abbrev mT(d:Nat)(k:Bool):O:=⟨some d,none,.mov (.c (.bool k))⟩
abbrev mN(d s:Nat):O:=⟨some d,none,.len false (.t s)⟩
abbrev mA(d s:Nat):O:=⟨some d,none,.box (.t s)⟩
abbrev mU(d s:Nat):O:=⟨some d,none,.un .not (.t s)⟩
namespace Fn
abbrev Xk:FuncId:=3
abbrev Xm:FuncId:=4
abbrev Vo:FuncId:=5
abbrev GW:FuncId:=6
abbrev PU:FuncId:=7
abbrev KH:FuncId:=8
abbrev Vk:FuncId:=9
abbrev UJ:FuncId:=10
abbrev VL:FuncId:=11
abbrev UL:FuncId:=12
abbrev WO:FuncId:=13
abbrev WU:FuncId:=14
abbrev Vq:FuncId:=15
abbrev Lk:FuncId:=16
abbrev Ou:FuncId:=17
abbrev U5:FuncId:=18
abbrev WS:FuncId:=19
abbrev U3:FuncId:=20
abbrev Wp:FuncId:=21
abbrev Wf:FuncId:=22
abbrev Vu:FuncId:=23
abbrev Kx:FuncId:=24
abbrev OY:FuncId:=25
abbrev UH:FuncId:=26
abbrev Xu:FuncId:=27
abbrev UO:FuncId:=28
abbrev VW:FuncId:=29
abbrev We:FuncId:=30
abbrev WT:FuncId:=31
abbrev VA:FuncId:=32
abbrev Xw:FuncId:=33
abbrev WV:FuncId:=34
abbrev Wh:FuncId:=35
abbrev Vb:FuncId:=36
abbrev W4:FuncId:=37
abbrev Xy:FuncId:=38
abbrev UU:FuncId:=39
abbrev UF:FuncId:=40
abbrev U7:FuncId:=41
abbrev U4:FuncId:=42
abbrev xq:FuncId:=43
abbrev VP:FuncId:=44
abbrev UZ:FuncId:=45
abbrev Vj:FuncId:=46
abbrev U0:FuncId:=47
abbrev WQ:FuncId:=48
abbrev Vm:FuncId:=49
abbrev UK:FuncId:=50
abbrev UT:FuncId:=51
abbrev Vi:FuncId:=52
abbrev Vd:FuncId:=53
abbrev WA:FuncId:=54
abbrev zt:FuncId:=55
abbrev UD:FuncId:=56
abbrev Xi:FuncId:=57
abbrev WC:FuncId:=58
abbrev Vf:FuncId:=59
abbrev JJ:FuncId:=60
abbrev Xp:FuncId:=61
abbrev Wy:FuncId:=62
abbrev QX:FuncId:=63
abbrev OM:FuncId:=64
abbrev Uu:FuncId:=65
abbrev Ol:FuncId:=66
abbrev UG:FuncId:=67
abbrev V4:FuncId:=68
abbrev Ei:FuncId:=69
abbrev Xo:FuncId:=70
abbrev Vc:FuncId:=71
abbrev Wm:FuncId:=72
abbrev Vt:FuncId:=73
abbrev WN:FuncId:=74
abbrev VT:FuncId:=75
abbrev UA:FuncId:=76
abbrev Wl:FuncId:=77
abbrev Vz:FuncId:=78
abbrev Xl:FuncId:=79
abbrev Wz:FuncId:=80
abbrev Va:FuncId:=81
abbrev WG:FuncId:=82
abbrev VI:FuncId:=83
abbrev OU:FuncId:=84
abbrev Lj:FuncId:=85
abbrev U1:FuncId:=86
abbrev UX:FuncId:=87
abbrev UE:FuncId:=88
abbrev Lb:FuncId:=89
abbrev Vv:FuncId:=90
abbrev VR:FuncId:=91
abbrev U9:FuncId:=92
abbrev LH:FuncId:=93
abbrev W6:FuncId:=94
abbrev Uy:FuncId:=95
abbrev Ww:FuncId:=96
abbrev Uz:FuncId:=97
abbrev WJ:FuncId:=98
abbrev Li:FuncId:=99
abbrev Vn:FuncId:=100
abbrev Vh:FuncId:=101
abbrev Ve:FuncId:=102
abbrev WM:FuncId:=103
abbrev VB:FuncId:=104
abbrev V0:FuncId:=105
abbrev K8:FuncId:=106
abbrev Ux:FuncId:=107
abbrev WY:FuncId:=108
abbrev VE:FuncId:=109
abbrev V2:FuncId:=110
abbrev VS:FuncId:=111
abbrev YP:FuncId:=112
abbrev YQ:FuncId:=114
abbrev Vw:FuncId:=116
abbrev K9:FuncId:=117
abbrev VG:FuncId:=118
abbrev Vg:FuncId:=119
abbrev Wq:FuncId:=120
abbrev UY:FuncId:=121
abbrev Xb:FuncId:=122
abbrev VD:FuncId:=123
abbrev Wt:FuncId:=124
abbrev Vy:FuncId:=125
abbrev WL:FuncId:=126
abbrev U8:FuncId:=127
abbrev UR:FuncId:=128
abbrev Vs:FuncId:=129
abbrev Wo:FuncId:=130
abbrev NX:FuncId:=131
abbrev VH:FuncId:=132
abbrev U6:FuncId:=133
abbrev UQ:FuncId:=134
abbrev Ld:FuncId:=135
abbrev W7:FuncId:=136
abbrev Yy:FuncId:=137
abbrev UC:FuncId:=140
abbrev YJ:FuncId:=141
abbrev Wu:FuncId:=142
abbrev U2:FuncId:=143
abbrev SY:FuncId:=148
abbrev Nl:FuncId:=149
abbrev RL:FuncId:=150
abbrev Xg:FuncId:=151
abbrev Lf:FuncId:=152
abbrev VF:FuncId:=153
abbrev Da:FuncId:=154
abbrev Rg:FuncId:=155
abbrev UW:FuncId:=156
abbrev WI:FuncId:=157
abbrev Kd:FuncId:=158
abbrev US:FuncId:=165
abbrev Xf:FuncId:=166
abbrev Lc:FuncId:=167
abbrev VU:FuncId:=168
abbrev Xz:FuncId:=169
abbrev Ko:FuncId:=170
abbrev Vp:FuncId:=175
abbrev Xe:FuncId:=176
abbrev vJ:FuncId:=177
abbrev P5:FuncId:=178
abbrev EW:FuncId:=179
abbrev xg:FuncId:=187
abbrev UN:FuncId:=188
abbrev Wx:FuncId:=189
abbrev WK:FuncId:=190
abbrev Vr:FuncId:=191
abbrev UP:FuncId:=192
abbrev XQ:FuncId:=193
abbrev Xt:FuncId:=194
abbrev La:FuncId:=195
abbrev Wg:FuncId:=196
abbrev Yw:FuncId:=206
abbrev Wc:FuncId:=207
abbrev KN:FuncId:=208
abbrev Wn:FuncId:=209
abbrev Wk:FuncId:=216
end Fn
namespace Gn
abbrev g0:Nat:=0
abbrev g1:Nat:=1
abbrev g2:Nat:=2
abbrev g3:Nat:=3
abbrev g4:Nat:=4
abbrev g5:Nat:=5
abbrev g6:Nat:=6
abbrev g7:Nat:=7
abbrev g8:Nat:=8
end Gn
def WR:List (Nat×TI):=[
  (2,⟨.int .i64,1,8,[.int .i64 0],none⟩),
  (3,⟨.int .i64,1,8,[.int .i64 0],none⟩),
  (4,⟨.bool,1,1,[.bool false],none⟩),
  (5,⟨.int .u8,1,1,[.int .u8 0],none⟩),
  (9,⟨.str,1,16,[.str ⟨#[]⟩],none⟩),
  (21,⟨.int .i32,1,4,[.int .i32 0],none⟩),
  (22,⟨.slice 70,1,24,[.nils],none⟩),
  (23,⟨.slice 75,1,24,[.nils],none⟩),
  (24,⟨.slice 80,1,24,[.nils],none⟩),
  (25,⟨.slice 87,1,24,[.nils],none⟩),
  (27,⟨.strct [(0,3),(1,22),(2,23),(3,24),(4,25)],5,104,[.int .i64 0,.nils,.nils,.nils,.nils],none⟩),
  (29,⟨.slice 94,1,24,[.nils],none⟩),
  (30,⟨.slice 105,1,24,[.nils],none⟩),
  (31,⟨.slice 110,1,24,[.nils],none⟩),
  (32,⟨.slice 117,1,24,[.nils],none⟩),
  (34,⟨.strct [(0,3),(1,29),(2,30),(3,31),(4,32)],5,104,[.int .i64 0,.nils,.nils,.nils,.nils],none⟩),
  (47,⟨.slice 98,1,24,[.nils],none⟩),
  (50,⟨.strct [(0,3),(1,3)],2,16,[.int .i64 0,.int .i64 0],none⟩),
  (52,⟨.slice 50,1,24,[.nils],none⟩),
  (66,⟨.slice 67,1,24,[.nils],none⟩),
  (67,⟨.strct [(0,3),(1,3)],2,16,[.int .i64 0,.int .i64 0],none⟩),
  (68,⟨.slice 201,1,24,[.nils],none⟩),
  (70,⟨.strct [(0,3),(1,3),(2,66),(3,3),(4,67),(6,23),(7,68),(8,3),(9,3),(10,3),(11,3)],12,144,[.int .i64 0,.int .i64 0,.nils,.int .i64 0,.int .i64 0,.int .i64 0,.nils,.nils,.int .i64 0,.int .i64 0,.int .i64 0,.int .i64 0],none⟩),
  (73,⟨.strct [(0,3),(1,3),(2,3)],3,24,[.int .i64 0,.int .i64 0,.int .i64 0],none⟩),
  (75,⟨.strct [(0,3),(1,9),(2,66),(3,3),(4,73)],7,80,[.int .i64 0,.str ⟨#[]⟩,.nils,.int .i64 0,.int .i64 0,.int .i64 0,.int .i64 0],none⟩),
  (77,⟨.slice 203,1,24,[.nils],none⟩),
  (78,⟨.slice 205,1,24,[.nils],none⟩),
  (80,⟨.strct [(0,3),(1,4),(2,77),(3,3),(4,78),(5,3),(6,78)],7,104,[.int .i64 0,.bool false,.nils,.int .i64 0,.nils,.int .i64 0,.nils],none⟩),
  (82,⟨.slice 83,1,24,[.nils],none⟩),
  (83,⟨.strct [(0,3),(1,3)],2,16,[.int .i64 0,.int .i64 0],none⟩),
  (85,⟨.strct [(0,3),(1,3),(2,3),(3,3),(4,9),(5,82),(6,83),(8,3),(9,73)],12,120,[.int .i64 0,.int .i64 0,.int .i64 0,.int .i64 0,.str ⟨#[]⟩,.nils,.int .i64 0,.int .i64 0,.int .i64 0,.int .i64 0,.int .i64 0,.int .i64 0],none⟩),
  (87,⟨.strct [(0,3),(1,85)],13,128,[.int .i64 0,.int .i64 0,.int .i64 0,.int .i64 0,.int .i64 0,.str ⟨#[]⟩,.nils,.int .i64 0,.int .i64 0,.int .i64 0,.int .i64 0,.int .i64 0,.int .i64 0],none⟩),
  (92,⟨.slice 193,1,24,[.nils],none⟩),
  (94,⟨.strct [(0,3),(1,3),(2,52),(3,3),(4,50),(6,30),(7,92),(8,3),(9,3),(10,3),(11,3)],12,144,[.int .i64 0,.int .i64 0,.nils,.int .i64 0,.int .i64 0,.int .i64 0,.nils,.nils,.int .i64 0,.int .i64 0,.int .i64 0,.int .i64 0],none⟩),
  (96,⟨.slice 168,1,24,[.nils],none⟩),
  (98,⟨.strct [(0,9),(1,96)],2,40,[.str ⟨#[]⟩,.nils],none⟩),
  (103,⟨.strct [(0,3),(1,3),(2,3)],3,24,[.int .i64 0,.int .i64 0,.int .i64 0],none⟩),
  (105,⟨.strct [(0,3),(1,9),(2,52),(3,3),(4,103)],7,80,[.int .i64 0,.str ⟨#[]⟩,.nils,.int .i64 0,.int .i64 0,.int .i64 0,.int .i64 0],none⟩),
  (107,⟨.slice 195,1,24,[.nils],none⟩),
  (108,⟨.slice 197,1,24,[.nils],none⟩),
  (110,⟨.strct [(0,3),(1,4),(2,107),(3,3),(4,108),(5,3),(6,108)],7,104,[.int .i64 0,.bool false,.nils,.int .i64 0,.nils,.int .i64 0,.nils],none⟩),
  (112,⟨.slice 113,1,24,[.nils],none⟩),
  (113,⟨.strct [(0,3),(1,3)],2,16,[.int .i64 0,.int .i64 0],none⟩),
  (115,⟨.strct [(0,3),(1,3),(2,3),(3,3),(4,9),(5,112),(6,113),(8,3),(9,103)],12,120,[.int .i64 0,.int .i64 0,.int .i64 0,.int .i64 0,.str ⟨#[]⟩,.nils,.int .i64 0,.int .i64 0,.int .i64 0,.int .i64 0,.int .i64 0,.int .i64 0],none⟩),
  (117,⟨.strct [(0,3),(1,115)],13,128,[.int .i64 0,.int .i64 0,.int .i64 0,.int .i64 0,.int .i64 0,.str ⟨#[]⟩,.nils,.int .i64 0,.int .i64 0,.int .i64 0,.int .i64 0,.int .i64 0,.int .i64 0],none⟩),
  (143,⟨.slice 9,1,24,[.nils],none⟩),
  (166,⟨.slice 170,1,24,[.nils],none⟩),
  (168,⟨.strct [(0,9),(1,166)],2,40,[.str ⟨#[]⟩,.nils],none⟩),
  (170,⟨.strct [(0,3),(1,3),(2,3),(3,3),(4,3),(5,9)],6,56,[.int .i64 0,.int .i64 0,.int .i64 0,.int .i64 0,.int .i64 0,.str ⟨#[]⟩],(some [.int .i64,.int .i64,.int .i64,.int .i64,.int .i64,.str])⟩),
  (174,⟨.ptr 177,1,8,[.nilp],none⟩),
  (175,⟨.slice 5,1,24,[.nils],none⟩),
  (177,⟨.strct [(0,174),(1,175)],2,32,[.nilp,.nils],none⟩),
  (181,⟨.iface,1,16,[.opq .nilIface],none⟩),
  (193,⟨.strct [(0,3),(1,3)],2,16,[.int .i64 0,.int .i64 0],none⟩),
  (195,⟨.strct [(0,3),(1,3),(2,3)],3,24,[.int .i64 0,.int .i64 0,.int .i64 0],none⟩),
  (197,⟨.strct [(0,3),(1,3)],2,16,[.int .i64 0,.int .i64 0],none⟩),
  (201,⟨.strct [(0,3),(1,3)],2,16,[.int .i64 0,.int .i64 0],none⟩),
  (203,⟨.strct [(0,3),(1,3),(2,3)],3,24,[.int .i64 0,.int .i64 0,.int .i64 0],none⟩),
  (205,⟨.strct [(0,3),(1,3)],2,16,[.int .i64 0,.int .i64 0],none⟩),
  (216,⟨.arr 11 9,11,176,[.str ⟨#[]⟩,.str ⟨#[]⟩,.str ⟨#[]⟩,.str ⟨#[]⟩,.str ⟨#[]⟩,.str ⟨#[]⟩,.str ⟨#[]⟩,.str ⟨#[]⟩,.str ⟨#[]⟩,.str ⟨#[]⟩,.str ⟨#[]⟩],none⟩),
  (217,⟨.ptr 3,1,8,[.nilp],none⟩),
  (218,⟨.slice 217,1,24,[.nils],none⟩),
  (221,⟨.ptr 5,1,8,[.nilp],none⟩),
  (237,⟨.other,1,8,[.nilp],none⟩),
  (253,⟨.slice 3,1,24,[.nils],none⟩),
  (260,⟨.int .u64,1,8,[.int .u64 0],none⟩),
  (261,⟨.int .u64,1,8,[.int .u64 0],none⟩),
  (266,⟨.strct [(0,9),(1,9),(2,181)],3,48,[.str ⟨#[]⟩,.str ⟨#[]⟩,.opq .nilIface],none⟩),
  (270,⟨.int .u32,1,4,[.int .u32 0],none⟩),
  (274,⟨.arr 256 5,256,256,[.int .u8 0,.int .u8 0,.int .u8 0,.int .u8 0,.int .u8 0,.int .u8 0,.int .u8 0,.int .u8 0,.int .u8 0,.int .u8 0,.int .u8 0,.int .u8 0,.int .u8 0,.int .u8 0,.int .u8 0,.int .u8 0,.int .u8 0,.int .u8 0,.int .u8 0,.int .u8 0,.int .u8 0,.int .u8 0,.int .u8 0,.int .u8 0,.int .u8 0,.int .u8 0,.int .u8 0,.int .u8 0,.int .u8 0,.int .u8 0,.int .u8 0,.int .u8 0,.int .u8 0,.int .u8 0,.int .u8 0,.int .u8 0,.int .u8 0,.int .u8 0,.int .u8 0,.int .u8 0,.int .u8 0,.int .u8 0,.int .u8 0,.int .u8 0,.int .u8 0,.int .u8 0,.int .u8 0,.int .u8 0,.int .u8 0,.int .u8 0,.int .u8 0,.int .u8 0,.int .u8 0,.int .u8 0,.int .u8 0,.int .u8 0,.int .u8 0,.int .u8 0,.int .u8 0,.int .u8 0,.int .u8 0,.int .u8 0,.int .u8 0,.int .u8 0,.int .u8 0,.int .u8 0,.int .u8 0,.int .u8 0,.int .u8 0,.int .u8 0,.int .u8 0,.int .u8 0,.int .u8 0,.int .u8 0,.int .u8 0,.int .u8 0,.int .u8 0,.int .u8 0,.int .u8 0,.int .u8 0,.int .u8 0,.int .u8 0,.int .u8 0,.int .u8 0,.int .u8 0,.int .u8 0,.int .u8 0,.int .u8 0,.int .u8 0,.int .u8 0,.int .u8 0,.int .u8 0,.int .u8 0,.int .u8 0,.int .u8 0,.int .u8 0,.int .u8 0,.int .u8 0,.int .u8 0,.int .u8 0,.int .u8 0,.int .u8 0,.int .u8 0,.int .u8 0,.int .u8 0,.int .u8 0,.int .u8 0,.int .u8 0,.int .u8 0,.int .u8 0,.int .u8 0,.int .u8 0,.int .u8 0,.int .u8 0,.int .u8 0,.int .u8 0,.int .u8 0,.int .u8 0,.int .u8 0,.int .u8 0,.int .u8 0,.int .u8 0,.int .u8 0,.int .u8 0,.int .u8 0,.int .u8 0,.int .u8 0,.int .u8 0,.int .u8 0,.int .u8 0,.int .u8 0,.int .u8 0,.int .u8 0,.int .u8 0,.int .u8 0,.int .u8 0,.int .u8 0,.int .u8 0,.int .u8 0,.int .u8 0,.int .u8 0,.int .u8 0,.int .u8 0,.int .u8 0,.int .u8 0,.int .u8 0,.int .u8 0,.int .u8 0,.int .u8 0,.int .u8 0,.int .u8 0,.int .u8 0,.int .u8 0,.int .u8 0,.int .u8 0,.int .u8 0,.int .u8 0,.int .u8 0,.int .u8 0,.int .u8 0,.int .u8 0,.int .u8 0,.int .u8 0,.int .u8 0,.int .u8 0,.int .u8 0,.int .u8 0,.int .u8 0,.int .u8 0,.int .u8 0,.int .u8 0,.int .u8 0,.int .u8 0,.int .u8 0,.int .u8 0,.int .u8 0,.int .u8 0,.int .u8 0,.int .u8 0,.int .u8 0,.int .u8 0,.int .u8 0,.int .u8 0,.int .u8 0,.int .u8 0,.int .u8 0,.int .u8 0,.int .u8 0,.int .u8 0,.int .u8 0,.int .u8 0,.int .u8 0,.int .u8 0,.int .u8 0,.int .u8 0,.int .u8 0,.int .u8 0,.int .u8 0,.int .u8 0,.int .u8 0,.int .u8 0,.int .u8 0,.int .u8 0,.int .u8 0,.int .u8 0,.int .u8 0,.int .u8 0,.int .u8 0,.int .u8 0,.int .u8 0,.int .u8 0,.int .u8 0,.int .u8 0,.int .u8 0,.int .u8 0,.int .u8 0,.int .u8 0,.int .u8 0,.int .u8 0,.int .u8 0,.int .u8 0,.int .u8 0,.int .u8 0,.int .u8 0,.int .u8 0,.int .u8 0,.int .u8 0,.int .u8 0,.int .u8 0,.int .u8 0,.int .u8 0,.int .u8 0,.int .u8 0,.int .u8 0,.int .u8 0,.int .u8 0,.int .u8 0,.int .u8 0,.int .u8 0,.int .u8 0,.int .u8 0,.int .u8 0,.int .u8 0,.int .u8 0,.int .u8 0,.int .u8 0,.int .u8 0,.int .u8 0,.int .u8 0,.int .u8 0,.int .u8 0,.int .u8 0,.int .u8 0,.int .u8 0,.int .u8 0,.int .u8 0],none⟩),
  (276,⟨.strct [(0,5),(1,5)],2,2,[.int .u8 0,.int .u8 0],none⟩),
  (277,⟨.arr 16 276,32,32,[.int .u8 0,.int .u8 0,.int .u8 0,.int .u8 0,.int .u8 0,.int .u8 0,.int .u8 0,.int .u8 0,.int .u8 0,.int .u8 0,.int .u8 0,.int .u8 0,.int .u8 0,.int .u8 0,.int .u8 0,.int .u8 0,.int .u8 0,.int .u8 0,.int .u8 0,.int .u8 0,.int .u8 0,.int .u8 0,.int .u8 0,.int .u8 0,.int .u8 0,.int .u8 0,.int .u8 0,.int .u8 0,.int .u8 0,.int .u8 0,.int .u8 0,.int .u8 0],none⟩),
  (281,⟨.strct [(0,9)],1,16,[.str ⟨#[]⟩],none⟩),
  (284,⟨.arr 24 5,24,24,[.int .u8 0,.int .u8 0,.int .u8 0,.int .u8 0,.int .u8 0,.int .u8 0,.int .u8 0,.int .u8 0,.int .u8 0,.int .u8 0,.int .u8 0,.int .u8 0,.int .u8 0,.int .u8 0,.int .u8 0,.int .u8 0,.int .u8 0,.int .u8 0,.int .u8 0,.int .u8 0,.int .u8 0,.int .u8 0,.int .u8 0,.int .u8 0],none⟩),
  (290,⟨.arr 20 261,20,160,[.int .u64 0,.int .u64 0,.int .u64 0,.int .u64 0,.int .u64 0,.int .u64 0,.int .u64 0,.int .u64 0,.int .u64 0,.int .u64 0,.int .u64 0,.int .u64 0,.int .u64 0,.int .u64 0,.int .u64 0,.int .u64 0,.int .u64 0,.int .u64 0,.int .u64 0,.int .u64 0],none⟩),
  (291,⟨.arr 65 5,65,65,[.int .u8 0,.int .u8 0,.int .u8 0,.int .u8 0,.int .u8 0,.int .u8 0,.int .u8 0,.int .u8 0,.int .u8 0,.int .u8 0,.int .u8 0,.int .u8 0,.int .u8 0,.int .u8 0,.int .u8 0,.int .u8 0,.int .u8 0,.int .u8 0,.int .u8 0,.int .u8 0,.int .u8 0,.int .u8 0,.int .u8 0,.int .u8 0,.int .u8 0,.int .u8 0,.int .u8 0,.int .u8 0,.int .u8 0,.int .u8 0,.int .u8 0,.int .u8 0,.int .u8 0,.int .u8 0,.int .u8 0,.int .u8 0,.int .u8 0,.int .u8 0,.int .u8 0,.int .u8 0,.int .u8 0,.int .u8 0,.int .u8 0,.int .u8 0,.int .u8 0,.int .u8 0,.int .u8 0,.int .u8 0,.int .u8 0,.int .u8 0,.int .u8 0,.int .u8 0,.int .u8 0,.int .u8 0,.int .u8 0,.int .u8 0,.int .u8 0,.int .u8 0,.int .u8 0,.int .u8 0,.int .u8 0,.int .u8 0,.int .u8 0,.int .u8 0,.int .u8 0],none⟩),
  (294,⟨.arr 32 5,32,32,[.int .u8 0,.int .u8 0,.int .u8 0,.int .u8 0,.int .u8 0,.int .u8 0,.int .u8 0,.int .u8 0,.int .u8 0,.int .u8 0,.int .u8 0,.int .u8 0,.int .u8 0,.int .u8 0,.int .u8 0,.int .u8 0,.int .u8 0,.int .u8 0,.int .u8 0,.int .u8 0,.int .u8 0,.int .u8 0,.int .u8 0,.int .u8 0,.int .u8 0,.int .u8 0,.int .u8 0,.int .u8 0,.int .u8 0,.int .u8 0,.int .u8 0,.int .u8 0],none⟩),
  (295,⟨.arr 64 5,64,64,[.int .u8 0,.int .u8 0,.int .u8 0,.int .u8 0,.int .u8 0,.int .u8 0,.int .u8 0,.int .u8 0,.int .u8 0,.int .u8 0,.int .u8 0,.int .u8 0,.int .u8 0,.int .u8 0,.int .u8 0,.int .u8 0,.int .u8 0,.int .u8 0,.int .u8 0,.int .u8 0,.int .u8 0,.int .u8 0,.int .u8 0,.int .u8 0,.int .u8 0,.int .u8 0,.int .u8 0,.int .u8 0,.int .u8 0,.int .u8 0,.int .u8 0,.int .u8 0,.int .u8 0,.int .u8 0,.int .u8 0,.int .u8 0,.int .u8 0,.int .u8 0,.int .u8 0,.int .u8 0,.int .u8 0,.int .u8 0,.int .u8 0,.int .u8 0,.int .u8 0,.int .u8 0,.int .u8 0,.int .u8 0,.int .u8 0,.int .u8 0,.int .u8 0,.int .u8 0,.int .u8 0,.int .u8 0,.int .u8 0,.int .u8 0,.int .u8 0,.int .u8 0,.int .u8 0,.int .u8 0,.int .u8 0,.int .u8 0,.int .u8 0,.int .u8 0],none⟩)]
def Θ:jL:=CK WR
theorem aF:cX Tryz.prog Θ:=CR (by kernel_rfl) (by kernel_rfl)
theorem mixed:Tryz.prog.follows .mixedOrders=true:=by kernel_rfl
theorem TB{Γ:bG}{f:FuncId}{fn:Func}{c:C}{rs:List RS}{args:List AV}{h:AH}{K:AV→AH→Prop}(hf:Tryz.prog.funcs[f]? = some fn)(code:Code)
    (hw:TC Tryz.prog Θ Γ c (aW rs K) ⟨args++List.replicate (fn.ntmps-args.length) (.tup []),[],h⟩)
    (hb:fn.body=some code:=by kernel_rfl) (hn:(fn.name == "runtime.NumGoroutine")=false:=by kernel_rfl) (hc:iN Θ code=some c:=by kernel_rfl) (hr:fn.results.toList.mapM (Dy Θ)=some rs:=by kernel_rfl):T Tryz.prog Γ f args h K:=
  zV aF hf hb hn hc hr hw
variable {Γ:bG} {a0 a1 a2 a3 a4 a5 a6 a7:AV} {h:AH} {K:AV→AH→Prop}
def tB:List O:=[mG 45 5 8,mG 46 5 2,mC 47 Fn.GW [.t 46],mC 48 Fn.KH [.t 45,.t 47],mU 49 48]
def rU:List (List Nat):=[[],[],[1],[0,2,2],[3]]
theorem cw(gl:Gl)(Q:AE→St→Prop)(s:St):aw Tryz.prog Θ Γ gl (.regD tB rU) Q s=bV Tryz.prog Γ gl [mG 45 5 8,mG 46 5 2,mC 47 Fn.GW [.t 46],mC 48 Fn.KH [.t 45,.t 47],mU 49 48] (Q .normal) 5 (.q 0 (.q 1 (.st 2 [8] (.q 3 (.q 4 (.done)))))) s:=eX rfl (by kernel_rfl) gl Q s
def Jr:C:=.seq (.reg [mA 2 0,mT 4 false]) (.seq (.reg [mK 5 1048576]) (.seq (.reg [mG 16 5 2,mV 17 5,mC 18 Fn.Xm [.t 16,.t 17],mV 5 18]) (.seq (.seq (.reg [mV 19 5,mI 20 .lss 19 0]) (.cond (.t 20) (.seq (.reg [mT 4 true]) .ret) .skip)) (.seq (.reg [mG 22 5 2,mC 23 Fn.GW [.t 22],mV 24 1,mC 25 Fn.Vo [.t 23,.t 24],mV 21 25,⟨(some 26),none,.extr (.t 21) 0⟩,⟨(some 27),none,.extr (.t 21) 1⟩,⟨(some 6),none,.alloc [.int .i64 0,.nils,.nils,.nils,.nils]⟩,mS 5 6 26,mV 7 27]) (.seq (.reg [mG 28 5 2,mC 29 Fn.GW [.t 28],⟨(some 8),none,.alloc [.int .i64 0,.nils,.nils,.nils,.nils]⟩,mS 5 8 29]) (.seq (.reg [mG 31 5 8,mV 32 1,mC 33 Fn.PU [.t 31,.t 32],mV 30 33,⟨(some 34),none,.extr (.t 30) 0⟩,⟨(some 35),none,.extr (.t 30) 1⟩,⟨(some 9),none,.alloc [.int .i64 0,.nils,.nils,.nils,.nils]⟩,mS 5 9 34,mV 10 35]) (.seq (.seq (.reg [mG 36 5 9,mG 37 5 6,mC 38 Fn.KH [.t 36,.t 37],mU 39 38,mV 40 39,⟨(some 41),(some (4,false)),.mov (.t 10)⟩,⟨(some 42),(some (4,false)),.mov (.t 7)⟩,⟨(some 43),(some (4,false)),.bin .neq (.num) (.t 41) (.t 42)⟩,⟨(some 44),none,.pick (.t 40) (.c (.bool true)) (.t 43)⟩]) (.cond (.t 44) (.seq (.reg [mT 4 false]) .ret) .skip)) (.seq (.seq (.regD tB rU) (.cond (.t 49) (.seq (.reg [mT 4 false]) .ret) .skip)) (.seq (.reg [mK 11 1]) (.seq (.reg [mG 50 5 8,mV 51 11,mC 52 Fn.Vk [.t 50,.t 51],mV 11 52]) (.seq (.seq (.reg [mV 53 11,mI 54 .lss 53 0,mV 55 54,⟨(some 56),(some (2,false)),.load 5 true (.t 9)⟩,⟨(some 57),(some (2,false)),.load 5 true (.t 6)⟩,⟨(some 58),(some (2,false)),.call (.c (.fn Fn.KH [] [])) [.t 56,.t 57]⟩,⟨(some 59),(some (2,false)),.un .not (.t 58)⟩,⟨(some 60),none,.pick (.t 55) (.c (.bool true)) (.t 59)⟩,mV 61 60,⟨(some 62),(some (8,false)),.mov (.t 10)⟩,⟨(some 63),(some (8,false)),.mov (.t 7)⟩,⟨(some 64),(some (8,false)),.bin .neq (.num) (.t 62) (.t 63)⟩,⟨(some 65),none,.pick (.t 61) (.c (.bool true)) (.t 64)⟩]) (.cond (.t 65) (.seq (.reg [mT 4 false]) .ret) .skip)) (.seq (.reg [mK 12 1]) (.seq (.reg [mG 66 5 9,mV 67 12,mC 68 Fn.Vk [.t 66,.t 67],mV 12 68]) (.seq (.reg [mK 13 1]) (.seq (.reg [mG 69 5 9,mV 70 13,mC 71 Fn.UJ [.t 69,.t 70],mV 13 71]) (.seq (.seq (.reg [mV 72 13,mI 73 .lss 72 0]) (.cond (.t 73) (.seq (.reg [mT 4 false]) .ret) .skip)) (.seq (.seq (.reg [mV 74 13,mV 75 12,mB 76 .neq 74 75]) (.cond (.t 76) (.seq (.reg [mT 4 false]) .ret) .skip)) (.seq (.reg [mG 78 5 2,mC 79 Fn.GW [.t 78],mV 80 1,mC 81 Fn.PU [.t 79,.t 80],mV 77 81,⟨(some 82),none,.extr (.t 77) 0⟩,⟨(some 83),none,.extr (.t 77) 1⟩,⟨(some 14),none,.alloc [.int .i64 0,.nils,.nils,.nils,.nils]⟩,mS 5 14 82,mV 15 83]) (.seq (.seq (.reg [mG 84 5 14,mG 85 5 6,mC 86 Fn.KH [.t 84,.t 85],mU 87 86,mV 88 87,⟨(some 89),(some (4,false)),.mov (.t 15)⟩,⟨(some 90),(some (4,false)),.mov (.t 7)⟩,⟨(some 91),(some (4,false)),.bin .neq (.num) (.t 89) (.t 90)⟩,⟨(some 92),none,.pick (.t 88) (.c (.bool true)) (.t 91)⟩]) (.cond (.t 92) (.seq (.reg [mT 4 false]) .ret) .skip)) (.seq (.reg [mK 13 1]) (.seq (.reg [mG 93 5 9,mV 94 13,mC 95 Fn.UJ [.t 93,.t 94],mV 13 95]) (.seq (.seq (.reg [mV 96 13,mI 97 .lss 96 0]) (.cond (.t 97) (.seq (.reg [mT 4 false]) .ret) .skip)) (.seq (.seq (.reg [mV 98 13,mV 99 12,mB 100 .neq 98 99]) (.cond (.t 100) (.seq (.reg [mT 4 false]) .ret) .skip)) (.seq (.reg [mT 4 true]) .ret))))))))))))))))))))))))
def fv:List RS:=[.t 4]
theorem LJ(hw:TC Tryz.prog Θ Γ Jr (aW fv K) ⟨[a0,a1,u,u,u,u,u,u,u,u,u,u,u,u,u,u,u,u,u,u,u,u,u,u,u,u,u,u,u,u,u,u,u,u,u,u,u,u,u,u,u,u,u,u,u,u,u,u,u,u,u,u,u,u,u,u,u,u,u,u,u,u,u,u,u,u,u,u,u,u,u,u,u,u,u,u,u,u,u,u,u,u,u,u,u,u,u,u,u,u,u,u,u,u,u,u,u,u,u,u,u],[],h⟩):T Tryz.prog Γ Fn.Xk [a0,a1] h K:=
  TB Tryz.func3 (aG Tryz.f3) hw
def Gq:C:=.seq (.reg [mA 2 0,mK 4 0]) (.seq (.reg [mF 5 1 2,mL 6 1 5,mV 7 1,mC 8 Fn.VL [.t 6,.t 7],mV 1 8]) (.seq (.seq (.reg [mV 9 1,mI 10 .lss 9 0]) (.cond (.t 10) (.seq (.reg [mK 4 (-1)]) .ret) .skip)) (.seq (.reg [mF 11 2 2,mL 12 1 11,mV 13 1,mC 14 Fn.UL [.t 12,.t 13],mV 1 14]) (.seq (.seq (.reg [mV 15 1,mI 16 .lss 15 0]) (.cond (.t 16) (.seq (.reg [mK 4 (-1)]) .ret) .skip)) (.seq (.reg [mF 17 3 2,mL 18 1 17,mV 19 1,mC 20 Fn.WO [.t 18,.t 19],mV 1 20]) (.seq (.seq (.reg [mV 21 1,mI 22 .lss 21 0]) (.cond (.t 22) (.seq (.reg [mK 4 (-1)]) .ret) .skip)) (.seq (.reg [mF 23 4 2,mL 24 1 23,mV 25 1,mC 26 Fn.WU [.t 24,.t 25],mV 1 26]) (.seq (.seq (.reg [mV 27 1,mI 28 .lss 27 0]) (.cond (.t 28) (.seq (.reg [mK 4 (-1)]) .ret) .skip)) (.seq (.reg [mV 29 1,mV 4 29]) .ret)))))))))
def iE:List RS:=[.t 4]
theorem S7(hw:TC Tryz.prog Θ Γ Gq (aW iE K) ⟨[a0,a1,u,u,u,u,u,u,u,u,u,u,u,u,u,u,u,u,u,u,u,u,u,u,u,u,u,u,u,u],[],h⟩):T Tryz.prog Γ Fn.Xm [a0,a1] h K:=
  TB Tryz.func4 (aG Tryz.f4) hw
def si:List O:=[mG 6 5 2,mC 7 Fn.Ou [],⟨(some 8),none,.call (.c (.fn Fn.Lk [] [])) [.t 7,.c (.str ⟨#[103,97,116,101]⟩)]⟩,mV 9 1,mC 10 Fn.U5 [.t 9],⟨(some 11),none,.bsl 2 1 [.int .i64 0,.int .i64 0] [(0,.t 10)]⟩,mC 12 Fn.Vq [.t 6,.t 8,.t 11],⟨(some 13),none,.extr (.t 12) 0⟩,⟨(some 14),none,.extr (.t 12) 1⟩,mS 5 4 13,mV 5 14]
def qX:List (List Nat):=[[],[],[1,1],[],[3,2],[4],[0,2,5,4],[6],[6],[7,6,0,1,2,3,4,5,6,7,8],[8,9,0,1,2,3,4,5,6,7,8,9]]
theorem jA(gl:Gl)(Q:AE→St→Prop)(s:St):aw Tryz.prog Θ Γ gl (.regD si qX) Q s=bV Tryz.prog Γ gl [mG 6 5 2,mC 7 Fn.Ou [],⟨(some 8),none,.call (.c (.fn Fn.Lk [] [])) [.t 7,.c (.str ⟨#[103,97,116,101]⟩)]⟩,mV 9 1,mC 10 Fn.U5 [.t 9],⟨(some 11),none,.bsl 2 1 [.int .i64 0,.int .i64 0] [(0,.t 10)]⟩,mC 12 Fn.Vq [.t 6,.t 8,.t 11],⟨(some 13),none,.extr (.t 12) 0⟩,⟨(some 14),none,.extr (.t 12) 1⟩,mS 5 4 13,mV 5 14] (Q .normal) 11 (.q 0 (.q 3 (.st 1 [2] (.st 2 [2] (.st 4 [2] (.all [(5,.q 6 (.q 7 (.q 8 (.q 9 (.q 10 (.done))))))])))))) s:=eX rfl (by kernel_rfl) gl Q s
def Fx:C:=.seq (.reg [mA 2 0,⟨(some 4),none,.alloc [.int .i64 0,.nils,.nils,.nils,.nils]⟩,mK 5 0]) (.seq (.regD si qX) .ret)
def sw:List RS:=[.cell 4 5 true,.t 5]
theorem QQ(hw:TC Tryz.prog Θ Γ Fx (aW sw K) ⟨[a0,a1,u,u,u,u,u,u,u,u,u,u,u,u,u],[],h⟩):T Tryz.prog Γ Fn.Vo [a0,a1] h K:=
  TB Tryz.func5 (aG Tryz.f5) hw
def FC:C:=.seq (.reg [mA 1 0,⟨(some 2),none,.alloc [.int .i64 0,.nils,.nils,.nils,.nils]⟩]) (.seq (.reg [⟨(some 3),none,.alloc [.int .i64 0,.nils,.nils,.nils,.nils]⟩]) (.seq (.reg [mF 4 0 1,mL 5 1 4,mF 6 0 3,mS 1 6 5]) (.seq (.reg [mF 7 1 1,mL 8 1 7,mC 9 Fn.WS [.t 8],mF 10 1 3,mS 1 10 9]) (.seq (.reg [mF 11 2 1,mL 12 1 11,mC 13 Fn.U3 [.t 12],mF 14 2 3,mS 1 14 13]) (.seq (.reg [mF 15 3 1,mL 16 1 15,mC 17 Fn.Wp [.t 16],mF 18 3 3,mS 1 18 17]) (.seq (.reg [mF 19 4 1,mL 20 1 19,mC 21 Fn.Wf [.t 20],mF 22 4 3,mS 1 22 21]) (.seq (.reg [mG 23 5 3,mS 5 2 23]) .ret)))))))
def r6:List RS:=[.cell 2 5 true]
theorem OZ(hw:TC Tryz.prog Θ Γ FC (aW r6 K) ⟨[a0,u,u,u,u,u,u,u,u,u,u,u,u,u,u,u,u,u,u,u,u,u,u,u],[],h⟩):T Tryz.prog Γ Fn.GW [a0] h K:=
  TB Tryz.func6 (aG Tryz.f6) hw
def sL:List O:=[mG 6 5 2,mC 7 Fn.OY [],⟨(some 8),none,.call (.c (.fn Fn.Kx [] [])) [.t 7,.c (.str ⟨#[103,97,116,101]⟩)]⟩,mV 9 1,mC 10 Fn.UH [.t 9],⟨(some 11),none,.bsl 2 1 [.int .i64 0,.int .i64 0] [(0,.t 10)]⟩,mC 12 Fn.Vu [.t 6,.t 8,.t 11],⟨(some 13),none,.extr (.t 12) 0⟩,⟨(some 14),none,.extr (.t 12) 1⟩,mS 5 4 13,mV 5 14]
def rD:List (List Nat):=[[],[],[1,1],[],[3,2],[4],[0,2,5,4],[6],[6],[7,6,0,1,2,3,4,5,6,7,8],[8,9,0,1,2,3,4,5,6,7,8,9]]
theorem jJ(gl:Gl)(Q:AE→St→Prop)(s:St):aw Tryz.prog Θ Γ gl (.regD sL rD) Q s=bV Tryz.prog Γ gl [mG 6 5 2,mC 7 Fn.OY [],⟨(some 8),none,.call (.c (.fn Fn.Kx [] [])) [.t 7,.c (.str ⟨#[103,97,116,101]⟩)]⟩,mV 9 1,mC 10 Fn.UH [.t 9],⟨(some 11),none,.bsl 2 1 [.int .i64 0,.int .i64 0] [(0,.t 10)]⟩,mC 12 Fn.Vu [.t 6,.t 8,.t 11],⟨(some 13),none,.extr (.t 12) 0⟩,⟨(some 14),none,.extr (.t 12) 1⟩,mS 5 4 13,mV 5 14] (Q .normal) 11 (.q 0 (.q 3 (.st 1 [2] (.st 2 [2] (.st 4 [2] (.all [(5,.q 6 (.q 7 (.q 8 (.q 9 (.q 10 (.done))))))])))))) s:=eX rfl (by kernel_rfl) gl Q s
def Fg:C:=.seq (.reg [mA 2 0,⟨(some 4),none,.alloc [.int .i64 0,.nils,.nils,.nils,.nils]⟩,mK 5 0]) (.seq (.regD sL rD) .ret)
def rp:List RS:=[.cell 4 5 true,.t 5]
theorem PF(hw:TC Tryz.prog Θ Γ Fg (aW rp K) ⟨[a0,a1,u,u,u,u,u,u,u,u,u,u,u,u,u],[],h⟩):T Tryz.prog Γ Fn.PU [a0,a1] h K:=
  TB Tryz.func7 (aG Tryz.f7) hw
def GC:C:=.seq (.reg [mA 2 0,mA 3 1,mT 4 false]) (.seq (.seq (.reg [mF 5 0 2,mL 6 1 5,mF 7 0 3,mL 8 1 7,mB 9 .neq 6 8]) (.cond (.t 9) (.seq (.reg [mT 4 false]) .ret) .skip)) (.seq (.seq (.reg [mF 10 1 2,mL 11 1 10,mF 12 1 3,mL 13 1 12,mC 14 Fn.Xu [.t 11,.t 13],mU 15 14]) (.cond (.t 15) (.seq (.reg [mT 4 false]) .ret) .skip)) (.seq (.seq (.reg [mF 16 2 2,mL 17 1 16,mF 18 2 3,mL 19 1 18,mC 20 Fn.UO [.t 17,.t 19],mU 21 20]) (.cond (.t 21) (.seq (.reg [mT 4 false]) .ret) .skip)) (.seq (.seq (.reg [mF 22 3 2,mL 23 1 22,mF 24 3 3,mL 25 1 24,mC 26 Fn.VW [.t 23,.t 25],mU 27 26]) (.cond (.t 27) (.seq (.reg [mT 4 false]) .ret) .skip)) (.seq (.seq (.reg [mF 28 4 2,mL 29 1 28,mF 30 4 3,mL 31 1 30,mC 32 Fn.We [.t 29,.t 31],mU 33 32]) (.cond (.t 33) (.seq (.reg [mT 4 false]) .ret) .skip)) (.seq (.reg [mT 4 true]) .ret))))))
def gI:List RS:=[.t 4]
theorem Oi(hw:TC Tryz.prog Θ Γ GC (aW gI K) ⟨[a0,a1,u,u,u,u,u,u,u,u,u,u,u,u,u,u,u,u,u,u,u,u,u,u,u,u,u,u,u,u,u,u,u,u],[],h⟩):T Tryz.prog Γ Fn.KH [a0,a1] h K:=
  TB Tryz.func8 (aG Tryz.f8) hw
def Fq:C:=.seq (.reg [mA 2 0,mK 4 0]) (.seq (.reg [mF 5 1 2,mL 6 1 5,mV 7 1,mC 8 Fn.WT [.t 6,.t 7],mV 1 8]) (.seq (.reg [mF 9 2 2,mL 10 1 9,mV 11 1,mC 12 Fn.VA [.t 10,.t 11],mV 1 12]) (.seq (.reg [mF 13 3 2,mL 14 1 13,mV 15 1,mC 16 Fn.Xw [.t 14,.t 15],mV 1 16]) (.seq (.reg [mF 17 4 2,mL 18 1 17,mV 19 1,mC 20 Fn.WV [.t 18,.t 19],mV 1 20]) (.seq (.reg [mV 21 1,mV 4 21]) .ret)))))
def tM:List RS:=[.t 4]
theorem SS(hw:TC Tryz.prog Θ Γ Fq (aW tM K) ⟨[a0,a1,u,u,u,u,u,u,u,u,u,u,u,u,u,u,u,u,u,u,u,u],[],h⟩):T Tryz.prog Γ Fn.Vk [a0,a1] h K:=
  TB Tryz.func9 (aG Tryz.f9) hw
def H8:C:=.seq (.reg [mA 2 0,mK 4 0]) (.seq (.reg [mF 5 1 2,mL 6 1 5,mV 7 1,mC 8 Fn.Wh [.t 6,.t 7],mV 1 8]) (.seq (.seq (.reg [mV 9 1,mI 10 .lss 9 0]) (.cond (.t 10) (.seq (.reg [mK 4 (-1)]) .ret) .skip)) (.seq (.reg [mF 11 2 2,mL 12 1 11,mV 13 1,mC 14 Fn.Vb [.t 12,.t 13],mV 1 14]) (.seq (.seq (.reg [mV 15 1,mI 16 .lss 15 0]) (.cond (.t 16) (.seq (.reg [mK 4 (-1)]) .ret) .skip)) (.seq (.reg [mF 17 3 2,mL 18 1 17,mV 19 1,mC 20 Fn.W4 [.t 18,.t 19],mV 1 20]) (.seq (.seq (.reg [mV 21 1,mI 22 .lss 21 0]) (.cond (.t 22) (.seq (.reg [mK 4 (-1)]) .ret) .skip)) (.seq (.reg [mF 23 4 2,mL 24 1 23,mV 25 1,mC 26 Fn.Xy [.t 24,.t 25],mV 1 26]) (.seq (.seq (.reg [mV 27 1,mI 28 .lss 27 0]) (.cond (.t 28) (.seq (.reg [mK 4 (-1)]) .ret) .skip)) (.seq (.reg [mV 29 1,mV 4 29]) .ret)))))))))
def tN:List RS:=[.t 4]
theorem Pz(hw:TC Tryz.prog Θ Γ H8 (aW tN K) ⟨[a0,a1,u,u,u,u,u,u,u,u,u,u,u,u,u,u,u,u,u,u,u,u,u,u,u,u,u,u,u,u],[],h⟩):T Tryz.prog Γ Fn.UJ [a0,a1] h K:=
  TB Tryz.func10 (aG Tryz.f10) hw
def N3:C:=.seq (.reg [mK 4 0]) (.seq (.reg [mV 6 1,mV 7 0,mN 8 7,mB 9 .sub 6 8,mV 1 9]) (.seq (.seq (.reg [mV 10 1,mI 11 .lss 10 0]) (.cond (.t 11) (.seq (.reg [mK 4 (-1)]) .ret) .skip)) (.seq (.seq (.reg [mK 5 0]) (.block 0 (.loop (.seq (.seq (.reg [mV 12 5,mV 13 0,mN 14 13,mB 15 .lss 12 14]) (.cond (.t 15) .skip (.exit 0))) (.seq (.block 1 (.seq (.reg [mV 18 0,mV 19 5,mX 20 12 18 19,mG 21 12 20,mV 22 1,mC 23 Fn.UU [.t 21,.t 22],mV 1 23]) (.seq (.reg [mV 24 1,mI 25 .lss 24 0]) (.cond (.t 25) (.seq (.reg [mK 4 (-1)]) .ret) .skip)))) (.reg [mV 16 5,mI 17 .add 16 1,mV 5 17])))))) (.seq (.reg [mV 26 1,mV 4 26]) .ret))))
def RI:List RS:=[.t 4]
def VM(t0 t1 t5:AV)(loc:List (List AV))(h:AH):St:=⟨[t0,t1,.any,.any,.any,t5,.any,.any,.any,.any,.any,.any,.any,.any,.any,.any,.any,.any,.any,.any,.any,.any,.any,.any,.any,.any,.any],loc,h⟩
theorem Mw(hw:TC Tryz.prog Θ Γ N3 (aW RI K) ⟨[a0,a1,u,u,u,u,u,u,u,u,u,u,u,u,u,u,u,u,u,u,u,u,u,u,u,u,u],[],h⟩):T Tryz.prog Γ Fn.VL [a0,a1] h K:=
  TB Tryz.func11 (aG Tryz.f11) hw
def PH:C:=.seq (.reg [mK 4 0]) (.seq (.reg [mV 6 1,mV 7 0,mN 8 7,mB 9 .sub 6 8,mV 1 9]) (.seq (.seq (.reg [mV 10 1,mI 11 .lss 10 0]) (.cond (.t 11) (.seq (.reg [mK 4 (-1)]) .ret) .skip)) (.seq (.seq (.reg [mK 5 0]) (.block 0 (.loop (.seq (.seq (.reg [mV 12 5,mV 13 0,mN 14 13,mB 15 .lss 12 14]) (.cond (.t 15) .skip (.exit 0))) (.seq (.block 1 (.seq (.reg [mV 18 0,mV 19 5,mX 20 7 18 19,mG 21 7 20,mV 22 1,mC 23 Fn.UF [.t 21,.t 22],mV 1 23]) (.seq (.reg [mV 24 1,mI 25 .lss 24 0]) (.cond (.t 25) (.seq (.reg [mK 4 (-1)]) .ret) .skip)))) (.reg [mV 16 5,mI 17 .add 16 1,mV 5 17])))))) (.seq (.reg [mV 26 1,mV 4 26]) .ret))))
def MX:List RS:=[.t 4]
def V7(t0 t1 t5:AV)(loc:List (List AV))(h:AH):St:=⟨[t0,t1,.any,.any,.any,t5,.any,.any,.any,.any,.any,.any,.any,.any,.any,.any,.any,.any,.any,.any,.any,.any,.any,.any,.any,.any,.any],loc,h⟩
theorem Of(hw:TC Tryz.prog Θ Γ PH (aW MX K) ⟨[a0,a1,u,u,u,u,u,u,u,u,u,u,u,u,u,u,u,u,u,u,u,u,u,u,u,u,u],[],h⟩):T Tryz.prog Γ Fn.UL [a0,a1] h K:=
  TB Tryz.func12 (aG Tryz.f12) hw
def LD:C:=.seq (.reg [mK 4 0]) (.seq (.reg [mV 6 1,mV 7 0,mN 8 7,mB 9 .sub 6 8,mV 1 9]) (.seq (.seq (.reg [mV 10 1,mI 11 .lss 10 0]) (.cond (.t 11) (.seq (.reg [mK 4 (-1)]) .ret) .skip)) (.seq (.seq (.reg [mK 5 0]) (.block 0 (.loop (.seq (.seq (.reg [mV 12 5,mV 13 0,mN 14 13,mB 15 .lss 12 14]) (.cond (.t 15) .skip (.exit 0))) (.seq (.block 1 (.seq (.reg [mV 18 0,mV 19 5,mX 20 7 18 19,mG 21 7 20,mV 22 1,mC 23 Fn.U7 [.t 21,.t 22],mV 1 23]) (.seq (.reg [mV 24 1,mI 25 .lss 24 0]) (.cond (.t 25) (.seq (.reg [mK 4 (-1)]) .ret) .skip)))) (.reg [mV 16 5,mI 17 .add 16 1,mV 5 17])))))) (.seq (.reg [mV 26 1,mV 4 26]) .ret))))
def SR:List RS:=[.t 4]
def Xv(t0 t1 t5:AV)(loc:List (List AV))(h:AH):St:=⟨[t0,t1,.any,.any,.any,t5,.any,.any,.any,.any,.any,.any,.any,.any,.any,.any,.any,.any,.any,.any,.any,.any,.any,.any,.any,.any,.any],loc,h⟩
theorem Ng(hw:TC Tryz.prog Θ Γ LD (aW SR K) ⟨[a0,a1,u,u,u,u,u,u,u,u,u,u,u,u,u,u,u,u,u,u,u,u,u,u,u,u,u],[],h⟩):T Tryz.prog Γ Fn.WO [a0,a1] h K:=
  TB Tryz.func13 (aG Tryz.f13) hw
def Pk:C:=.seq (.reg [mK 4 0]) (.seq (.reg [mV 6 1,mV 7 0,mN 8 7,mB 9 .sub 6 8,mV 1 9]) (.seq (.seq (.reg [mV 10 1,mI 11 .lss 10 0]) (.cond (.t 11) (.seq (.reg [mK 4 (-1)]) .ret) .skip)) (.seq (.seq (.reg [mK 5 0]) (.block 0 (.loop (.seq (.seq (.reg [mV 12 5,mV 13 0,mN 14 13,mB 15 .lss 12 14]) (.cond (.t 15) .skip (.exit 0))) (.seq (.block 1 (.seq (.reg [mV 18 0,mV 19 5,mX 20 13 18 19,mG 21 13 20,mV 22 1,mC 23 Fn.U4 [.t 21,.t 22],mV 1 23]) (.seq (.reg [mV 24 1,mI 25 .lss 24 0]) (.cond (.t 25) (.seq (.reg [mK 4 (-1)]) .ret) .skip)))) (.reg [mV 16 5,mI 17 .add 16 1,mV 5 17])))))) (.seq (.reg [mV 26 1,mV 4 26]) .ret))))
def LW:List RS:=[.t 4]
def Xx(t0 t1 t5:AV)(loc:List (List AV))(h:AH):St:=⟨[t0,t1,.any,.any,.any,t5,.any,.any,.any,.any,.any,.any,.any,.any,.any,.any,.any,.any,.any,.any,.any,.any,.any,.any,.any,.any,.any],loc,h⟩
theorem M1(hw:TC Tryz.prog Θ Γ Pk (aW LW K) ⟨[a0,a1,u,u,u,u,u,u,u,u,u,u,u,u,u,u,u,u,u,u,u,u,u,u,u,u,u],[],h⟩):T Tryz.prog Γ Fn.WU [a0,a1] h K:=
  TB Tryz.func14 (aG Tryz.f14) hw
def tD:List O:=[mG 26 5 3,mV 27 1,mV 28 2,mC 29 Fn.U0 [.t 27,.t 28],mC 30 Fn.Vj [.t 26,.t 29],⟨(some 31),none,.extr (.t 30) 0⟩,⟨(some 32),none,.extr (.t 30) 1⟩,mS 5 6 31,mV 7 32]
def sv:List (List Nat):=[[],[],[],[1,2],[0,3,3],[4],[4],[5,4,0,1,2,3,4,5,6],[6,7,0,1,2,3,4,5,6,7]]
theorem hR(gl:Gl)(Q:AE→St→Prop)(s:St):aw Tryz.prog Θ Γ gl (.regD tD sv) Q s=bV Tryz.prog Γ gl [mG 26 5 3,mV 27 1,mV 28 2,mC 29 Fn.U0 [.t 27,.t 28],mC 30 Fn.Vj [.t 26,.t 29],⟨(some 31),none,.extr (.t 30) 0⟩,⟨(some 32),none,.extr (.t 30) 1⟩,mS 5 6 31,mV 7 32] (Q .normal) 9 (.q 0 (.q 1 (.q 2 (.st 3 [3] (.q 4 (.q 5 (.q 6 (.q 7 (.q 8 (.done)))))))))) s:=eX rfl (by kernel_rfl) gl Q s
def Je:C:=.seq (.reg [mA 3 0,⟨(some 6),none,.alloc [.int .i64 0,.nils,.nils,.nils,.nils]⟩,mK 7 0]) (.seq (.seq (.reg [mV 8 1,mC 9 Fn.xq [.t 8,.c (.int .i64 0),.c (.int .i64 5)],mU 10 9,mV 11 10,⟨(some 12),(some (3,false)),.mov (.t 2)⟩,⟨(some 13),(some (3,false)),.len false (.t 12)⟩,⟨(some 14),(some (3,false)),.bin .gtr (.num) (.t 13) (.c (.int .i64 3))⟩,⟨(some 15),none,.pick (.t 11) (.c (.bool true)) (.t 14)⟩,mV 16 15,⟨(some 17),(some (8,false)),.mov (.t 2)⟩,⟨(some 18),(some (8,false)),.fld 1 (.t 3)⟩,⟨(some 19),(some (8,false)),.load 1 false (.t 18)⟩,⟨(some 20),(some (8,false)),.len false (.t 19)⟩,⟨(some 21),(some (8,false)),.call (.c (.fn Fn.VP [] [])) [.t 17,.t 20]⟩,⟨(some 22),(some (8,false)),.un .not (.t 21)⟩,⟨(some 23),none,.pick (.t 16) (.c (.bool true)) (.t 22)⟩]) (.cond (.t 23) (.seq (.reg [mG 24 5 3,mC 25 Fn.UZ [.t 24],mS 5 6 25,mK 7 (-1)]) .ret) .skip)) (.seq (.regD tD sv) .ret))
def nM:List RS:=[.cell 6 5 true,.t 7]
theorem TN(hw:TC Tryz.prog Θ Γ Je (aW nM K) ⟨[a0,a1,a2,u,u,u,u,u,u,u,u,u,u,u,u,u,u,u,u,u,u,u,u,u,u,u,u,u,u,u,u,u,u],[],h⟩):T Tryz.prog Γ Fn.Vq [a0,a1,a2] h K:=
  TB Tryz.func15 (aG Tryz.f15) hw
def E7:C:=.seq (.reg [mK 4 0]) (.seq (.seq (.reg [mK 5 0]) (.block 0 (.loop (.seq (.seq (.reg [mV 6 5,mV 7 0,mN 8 7,mB 9 .lss 6 8]) (.cond (.t 9) .skip (.exit 0))) (.seq (.block 1 (.seq (.reg [mV 12 0,mV 13 5,mX 14 2 12 13,mF 15 0 14,mL 16 1 15,mV 17 1,mB 18 .eql 16 17]) (.cond (.t 18) (.seq (.reg [mV 19 5,mV 4 19]) .ret) .skip))) (.reg [mV 10 5,mI 11 .add 10 1,mV 5 11])))))) (.seq (.reg [mK 4 (-1)]) .ret))
def wG:List RS:=[.t 4]
def uK(t0 t1 t5:AV)(loc:List (List AV))(h:AH):St:=⟨[t0,t1,.any,.any,.any,t5,.any,.any,.any,.any,.any,.any,.any,.any,.any,.any,.any,.any,.any,.any],loc,h⟩
theorem NI(hw:TC Tryz.prog Θ Γ E7 (aW wG K) ⟨[a0,a1,u,u,u,u,u,u,u,u,u,u,u,u,u,u,u,u,u,u],[],h⟩):T Tryz.prog Γ Fn.Lk [a0,a1] h K:=
  TB Tryz.func16 (aG Tryz.f16) hw
def IH:C:=.seq (.reg [⟨(some 0),none,.mov (.c (.nils))⟩]) (.seq (.reg [mC 4 Fn.Vm [],mC 5 Fn.WQ [.t 4],mV 3 5,⟨(some 6),none,.extr (.t 3) 0⟩,⟨(some 7),none,.extr (.t 3) 1⟩,mV 1 6,mV 2 7]) (.seq (.reg [mV 8 1,mV 0 8]) .ret))
def yT:List RS:=[.t 0]
theorem TL(hw:TC Tryz.prog Θ Γ IH (aW yT K) ⟨[u,u,u,u,u,u,u,u,u],[],h⟩):T Tryz.prog Γ Fn.Ou [] h K:=
  TB Tryz.func17 (aG Tryz.f17) hw
def FQ:C:=.seq (.reg [⟨(some 2),none,.alloc [.int .i64 0,.int .i64 0]⟩]) (.seq (.reg [mV 3 0,⟨(some 4),none,.build [.int .i64 0,.int .i64 0] [(0,1,.c (.int .i64 1)),(1,1,.t 3)]⟩,mS 2 2 4]) .ret)
def Gz:List RS:=[.cell 2 2 true]
theorem TX(hw:TC Tryz.prog Θ Γ FQ (aW Gz K) ⟨[a0,u,u,u,u],[],h⟩):T Tryz.prog Γ Fn.U5 [a0] h K:=
  TB Tryz.func18 (aG Tryz.f18) hw
def RY:C:=.seq (.reg [⟨(some 2),none,.mov (.c (.nils))⟩]) (.seq (.reg [mV 5 0,mN 6 5,⟨(some 7),none,.mks 12 144 [.int .i64 0,.int .i64 0,.nils,.int .i64 0,.int .i64 0,.int .i64 0,.nils,.nils,.int .i64 0,.int .i64 0,.int .i64 0,.int .i64 0] (.t 6) (.t 6)⟩,mV 3 7]) (.seq (.seq (.reg [mK 4 0]) (.block 0 (.loop (.seq (.seq (.reg [mV 8 4,mV 9 0,mN 10 9,mB 11 .lss 8 10]) (.cond (.t 11) .skip (.exit 0))) (.seq (.block 1 (.reg [mV 14 3,mV 15 4,mV 16 0,mV 17 4,mX 18 12 16 17,mG 19 12 18,mC 20 Fn.UK [.t 19],mX 21 12 14 15,mS 12 21 20])) (.reg [mV 12 4,mI 13 .add 12 1,mV 4 13])))))) (.seq (.reg [mV 22 3,mV 2 22]) .ret)))
def Ob:List RS:=[.t 2]
def WX(t0 t3 t4:AV)(loc:List (List AV))(h:AH):St:=⟨[t0,.any,.any,t3,t4,.any,.any,.any,.any,.any,.any,.any,.any,.any,.any,.any,.any,.any,.any,.any,.any,.any,.any],loc,h⟩
theorem Qg(hw:TC Tryz.prog Θ Γ RY (aW Ob K) ⟨[a0,u,u,u,u,u,u,u,u,u,u,u,u,u,u,u,u,u,u,u,u,u,u],[],h⟩):T Tryz.prog Γ Fn.WS [a0] h K:=
  TB Tryz.func19 (aG Tryz.f19) hw
def SA:C:=.seq (.reg [⟨(some 2),none,.mov (.c (.nils))⟩]) (.seq (.reg [mV 5 0,mN 6 5,⟨(some 7),none,.mks 7 80 [.int .i64 0,.str ⟨#[]⟩,.nils,.int .i64 0,.int .i64 0,.int .i64 0,.int .i64 0] (.t 6) (.t 6)⟩,mV 3 7]) (.seq (.seq (.reg [mK 4 0]) (.block 0 (.loop (.seq (.seq (.reg [mV 8 4,mV 9 0,mN 10 9,mB 11 .lss 8 10]) (.cond (.t 11) .skip (.exit 0))) (.seq (.block 1 (.reg [mV 14 3,mV 15 4,mV 16 0,mV 17 4,mX 18 7 16 17,mG 19 7 18,mC 20 Fn.UT [.t 19],mX 21 7 14 15,mS 7 21 20])) (.reg [mV 12 4,mI 13 .add 12 1,mV 4 13])))))) (.seq (.reg [mV 22 3,mV 2 22]) .ret)))
def Tn:List RS:=[.t 2]
def WD(t0 t3 t4:AV)(loc:List (List AV))(h:AH):St:=⟨[t0,.any,.any,t3,t4,.any,.any,.any,.any,.any,.any,.any,.any,.any,.any,.any,.any,.any,.any,.any,.any,.any,.any],loc,h⟩
theorem NR(hw:TC Tryz.prog Θ Γ SA (aW Tn K) ⟨[a0,u,u,u,u,u,u,u,u,u,u,u,u,u,u,u,u,u,u,u,u,u,u],[],h⟩):T Tryz.prog Γ Fn.U3 [a0] h K:=
  TB Tryz.func20 (aG Tryz.f20) hw
def OA:C:=.seq (.reg [⟨(some 2),none,.mov (.c (.nils))⟩]) (.seq (.reg [mV 5 0,mN 6 5,⟨(some 7),none,.mks 7 104 [.int .i64 0,.bool false,.nils,.int .i64 0,.nils,.int .i64 0,.nils] (.t 6) (.t 6)⟩,mV 3 7]) (.seq (.seq (.reg [mK 4 0]) (.block 0 (.loop (.seq (.seq (.reg [mV 8 4,mV 9 0,mN 10 9,mB 11 .lss 8 10]) (.cond (.t 11) .skip (.exit 0))) (.seq (.block 1 (.reg [mV 14 3,mV 15 4,mV 16 0,mV 17 4,mX 18 7 16 17,mG 19 7 18,mC 20 Fn.Vi [.t 19],mX 21 7 14 15,mS 7 21 20])) (.reg [mV 12 4,mI 13 .add 12 1,mV 4 13])))))) (.seq (.reg [mV 22 3,mV 2 22]) .ret)))
def Sy:List RS:=[.t 2]
def WH(t0 t3 t4:AV)(loc:List (List AV))(h:AH):St:=⟨[t0,.any,.any,t3,t4,.any,.any,.any,.any,.any,.any,.any,.any,.any,.any,.any,.any,.any,.any,.any,.any,.any,.any],loc,h⟩
theorem Ur(hw:TC Tryz.prog Θ Γ OA (aW Sy K) ⟨[a0,u,u,u,u,u,u,u,u,u,u,u,u,u,u,u,u,u,u,u,u,u,u],[],h⟩):T Tryz.prog Γ Fn.Wp [a0] h K:=
  TB Tryz.func21 (aG Tryz.f21) hw
def Pw:C:=.seq (.reg [⟨(some 2),none,.mov (.c (.nils))⟩]) (.seq (.reg [mV 5 0,mN 6 5,⟨(some 7),none,.mks 13 128 [.int .i64 0,.int .i64 0,.int .i64 0,.int .i64 0,.int .i64 0,.str ⟨#[]⟩,.nils,.int .i64 0,.int .i64 0,.int .i64 0,.int .i64 0,.int .i64 0,.int .i64 0] (.t 6) (.t 6)⟩,mV 3 7]) (.seq (.seq (.reg [mK 4 0]) (.block 0 (.loop (.seq (.seq (.reg [mV 8 4,mV 9 0,mN 10 9,mB 11 .lss 8 10]) (.cond (.t 11) .skip (.exit 0))) (.seq (.block 1 (.reg [mV 14 3,mV 15 4,mV 16 0,mV 17 4,mX 18 13 16 17,mG 19 13 18,mC 20 Fn.Vd [.t 19],mX 21 13 14 15,mS 13 21 20])) (.reg [mV 12 4,mI 13 .add 12 1,mV 4 13])))))) (.seq (.reg [mV 22 3,mV 2 22]) .ret)))
def PI:List RS:=[.t 2]
def VQ(t0 t3 t4:AV)(loc:List (List AV))(h:AH):St:=⟨[t0,.any,.any,t3,t4,.any,.any,.any,.any,.any,.any,.any,.any,.any,.any,.any,.any,.any,.any,.any,.any,.any,.any],loc,h⟩
theorem MW(hw:TC Tryz.prog Θ Γ Pw (aW PI K) ⟨[a0,u,u,u,u,u,u,u,u,u,u,u,u,u,u,u,u,u,u,u,u,u,u],[],h⟩):T Tryz.prog Γ Fn.Wf [a0] h K:=
  TB Tryz.func22 (aG Tryz.f22) hw
def Iy:C:=.seq (.reg [mA 3 0,⟨(some 6),none,.alloc [.int .i64 0,.nils,.nils,.nils,.nils]⟩,mK 7 0]) (.seq (.reg [mG 10 5 3,mC 11 Fn.WA [.t 10],⟨(some 8),none,.alloc [.int .i64 0,.nils,.nils,.nils,.nils]⟩,mS 5 8 11]) (.seq (.seq (.reg [mV 12 1,mC 13 Fn.zt [.t 12,.c (.int .i64 0),.c (.int .i64 5)],mU 14 13,mV 15 14,⟨(some 16),(some (3,false)),.mov (.t 2)⟩,⟨(some 17),(some (3,false)),.len false (.t 16)⟩,⟨(some 18),(some (3,false)),.bin .gtr (.num) (.t 17) (.c (.int .i64 3))⟩,⟨(some 19),none,.pick (.t 15) (.c (.bool true)) (.t 18)⟩,mV 20 19,⟨(some 21),(some (8,false)),.mov (.t 2)⟩,⟨(some 22),(some (8,false)),.fld 1 (.t 3)⟩,⟨(some 23),(some (8,false)),.load 1 false (.t 22)⟩,⟨(some 24),(some (8,false)),.len false (.t 23)⟩,⟨(some 25),(some (8,false)),.call (.c (.fn Fn.UD [] [])) [.t 21,.t 24]⟩,⟨(some 26),(some (8,false)),.un .not (.t 25)⟩,⟨(some 27),none,.pick (.t 20) (.c (.bool true)) (.t 26)⟩]) (.cond (.t 27) (.seq (.reg [mG 28 5 8,mS 5 6 28,mK 7 (-1)]) .ret) .skip)) (.seq (.reg [mV 29 1,mV 30 2,mC 31 Fn.WC [.t 29,.t 30],mC 32 Fn.Xi [.t 8,.t 31],mV 9 32]) (.seq (.reg [mG 33 5 8,mV 34 9,mS 5 6 33,mV 7 34]) .ret))))
def ny:List RS:=[.cell 6 5 true,.t 7]
theorem Me(hw:TC Tryz.prog Θ Γ Iy (aW ny K) ⟨[a0,a1,a2,u,u,u,u,u,u,u,u,u,u,u,u,u,u,u,u,u,u,u,u,u,u,u,u,u,u,u,u,u,u,u,u],[],h⟩):T Tryz.prog Γ Fn.Vu [a0,a1,a2] h K:=
  TB Tryz.func23 (aG Tryz.f23) hw
def BG:C:=.seq (.reg [mA 3 1,mK 4 0]) (.seq (.reg [mV 5 0,⟨(some 6),none,.mkf Fn.JJ [] [.t 3]⟩,mC 7 Fn.Vf [.t 5,.t 6],mV 4 7]) .ret)
def wo:List RS:=[.t 4]
theorem Iv(hw:TC Tryz.prog Θ Γ BG (aW wo K) ⟨[a0,a1,u,u,u,u,u,u],[],h⟩):T Tryz.prog Γ Fn.Kx [a0,a1] h K:=
  TB Tryz.func24 (aG Tryz.f24) hw
def ES:C:=.seq (.reg [⟨(some 0),none,.mov (.c (.nils))⟩]) (.seq (.reg [mC 4 Fn.Wy [],mC 5 Fn.Xp [.t 4],mV 3 5,⟨(some 6),none,.extr (.t 3) 0⟩,⟨(some 7),none,.extr (.t 3) 1⟩,mV 1 6,mV 2 7]) (.seq (.reg [mV 8 1,mV 0 8]) .ret))
def zM:List RS:=[.t 0]
theorem Pr(hw:TC Tryz.prog Θ Γ ES (aW zM K) ⟨[u,u,u,u,u,u,u,u,u],[],h⟩):T Tryz.prog Γ Fn.OY [] h K:=
  TB Tryz.func25 (aG Tryz.f25) hw
def Hx:C:=.seq (.reg [⟨(some 2),none,.alloc [.int .i64 0,.int .i64 0]⟩]) (.seq (.reg [mV 3 0,⟨(some 4),none,.build [.int .i64 0,.int .i64 0] [(0,1,.c (.int .i64 1)),(1,1,.t 3)]⟩,mS 2 2 4]) .ret)
def FG:List RS:=[.cell 2 2 true]
theorem NL(hw:TC Tryz.prog Θ Γ Hx (aW FG K) ⟨[a0,u,u,u,u],[],h⟩):T Tryz.prog Γ Fn.UH [a0] h K:=
  TB Tryz.func26 (aG Tryz.f26) hw
def tQ:List O:=[mV 17 0,mV 18 5,mX 19 12 17 18,mG 20 12 19,mV 21 1,mV 22 5,mX 23 12 21 22,mG 24 12 23,mC 25 Fn.QX [.t 20,.t 24],mU 26 25]
def qV:List (List Nat):=[[],[],[0,1],[2],[],[],[4,5],[6],[3,7],[8]]
theorem P4(gl:Gl)(Q:AE→St→Prop)(s:St):aw Tryz.prog Θ Γ gl (.regD tQ qV) Q s=bV Tryz.prog Γ gl [mV 17 0,mV 18 5,mX 19 12 17 18,mG 20 12 19,mV 21 1,mV 22 5,mX 23 12 21 22,mG 24 12 23,mC 25 Fn.QX [.t 20,.t 24],mU 26 25] (Q .normal) 10 (.q 0 (.q 1 (.q 2 (.q 3 (.q 4 (.q 5 (.q 6 (.q 7 (.q 8 (.q 9 (.done))))))))))) s:=eX rfl (by kernel_rfl) gl Q s
def N8:C:=.seq (.reg [mT 4 false]) (.seq (.seq (.reg [mV 6 0,mN 7 6,mV 8 1,mN 9 8,mB 10 .neq 7 9]) (.cond (.t 10) (.seq (.reg [mT 4 false]) .ret) .skip)) (.seq (.seq (.reg [mK 5 0]) (.block 0 (.loop (.seq (.seq (.reg [mV 11 5,mV 12 0,mN 13 12,mB 14 .lss 11 13]) (.cond (.t 14) .skip (.exit 0))) (.seq (.block 1 (.seq (.regD tQ qV) (.cond (.t 26) (.seq (.reg [mT 4 false]) .ret) .skip))) (.reg [mV 15 5,mI 16 .add 15 1,mV 5 16])))))) (.seq (.reg [mT 4 true]) .ret)))
def LU:List RS:=[.t 4]
def Xr(t0 t1 t5:AV)(loc:List (List AV))(h:AH):St:=⟨[t0,t1,.any,.any,.any,t5,.any,.any,.any,.any,.any,.any,.any,.any,.any,.any,.any,.any,.any,.any,.any,.any,.any,.any,.any,.any,.any],loc,h⟩
theorem Uv(hw:TC Tryz.prog Θ Γ N8 (aW LU K) ⟨[a0,a1,u,u,u,u,u,u,u,u,u,u,u,u,u,u,u,u,u,u,u,u,u,u,u,u,u],[],h⟩):T Tryz.prog Γ Fn.Xu [a0,a1] h K:=
  TB Tryz.func27 (aG Tryz.f27) hw
def rK:List O:=[mV 17 0,mV 18 5,mX 19 7 17 18,mG 20 7 19,mV 21 1,mV 22 5,mX 23 7 21 22,mG 24 7 23,mC 25 Fn.OM [.t 20,.t 24],mU 26 25]
def tO:List (List Nat):=[[],[],[0,1],[2],[],[],[4,5],[6],[3,7],[8]]
theorem Tv(gl:Gl)(Q:AE→St→Prop)(s:St):aw Tryz.prog Θ Γ gl (.regD rK tO) Q s=bV Tryz.prog Γ gl [mV 17 0,mV 18 5,mX 19 7 17 18,mG 20 7 19,mV 21 1,mV 22 5,mX 23 7 21 22,mG 24 7 23,mC 25 Fn.OM [.t 20,.t 24],mU 26 25] (Q .normal) 10 (.q 0 (.q 1 (.q 2 (.q 3 (.q 4 (.q 5 (.q 6 (.q 7 (.q 8 (.q 9 (.done))))))))))) s:=eX rfl (by kernel_rfl) gl Q s
def RZ:C:=.seq (.reg [mT 4 false]) (.seq (.seq (.reg [mV 6 0,mN 7 6,mV 8 1,mN 9 8,mB 10 .neq 7 9]) (.cond (.t 10) (.seq (.reg [mT 4 false]) .ret) .skip)) (.seq (.seq (.reg [mK 5 0]) (.block 0 (.loop (.seq (.seq (.reg [mV 11 5,mV 12 0,mN 13 12,mB 14 .lss 11 13]) (.cond (.t 14) .skip (.exit 0))) (.seq (.block 1 (.seq (.regD rK tO) (.cond (.t 26) (.seq (.reg [mT 4 false]) .ret) .skip))) (.reg [mV 15 5,mI 16 .add 15 1,mV 5 16])))))) (.seq (.reg [mT 4 true]) .ret)))
def Qm:List RS:=[.t 4]
def V6(t0 t1 t5:AV)(loc:List (List AV))(h:AH):St:=⟨[t0,t1,.any,.any,.any,t5,.any,.any,.any,.any,.any,.any,.any,.any,.any,.any,.any,.any,.any,.any,.any,.any,.any,.any,.any,.any,.any],loc,h⟩
theorem S3(hw:TC Tryz.prog Θ Γ RZ (aW Qm K) ⟨[a0,a1,u,u,u,u,u,u,u,u,u,u,u,u,u,u,u,u,u,u,u,u,u,u,u,u,u],[],h⟩):T Tryz.prog Γ Fn.UO [a0,a1] h K:=
  TB Tryz.func28 (aG Tryz.f28) hw
def rm:List O:=[mV 17 0,mV 18 5,mX 19 7 17 18,mG 20 7 19,mV 21 1,mV 22 5,mX 23 7 21 22,mG 24 7 23,mC 25 Fn.Uu [.t 20,.t 24],mU 26 25]
def qP:List (List Nat):=[[],[],[0,1],[2],[],[],[4,5],[6],[3,7],[8]]
theorem Nt(gl:Gl)(Q:AE→St→Prop)(s:St):aw Tryz.prog Θ Γ gl (.regD rm qP) Q s=bV Tryz.prog Γ gl [mV 17 0,mV 18 5,mX 19 7 17 18,mG 20 7 19,mV 21 1,mV 22 5,mX 23 7 21 22,mG 24 7 23,mC 25 Fn.Uu [.t 20,.t 24],mU 26 25] (Q .normal) 10 (.q 0 (.q 1 (.q 2 (.q 3 (.q 4 (.q 5 (.q 6 (.q 7 (.q 8 (.q 9 (.done))))))))))) s:=eX rfl (by kernel_rfl) gl Q s
def Rm:C:=.seq (.reg [mT 4 false]) (.seq (.seq (.reg [mV 6 0,mN 7 6,mV 8 1,mN 9 8,mB 10 .neq 7 9]) (.cond (.t 10) (.seq (.reg [mT 4 false]) .ret) .skip)) (.seq (.seq (.reg [mK 5 0]) (.block 0 (.loop (.seq (.seq (.reg [mV 11 5,mV 12 0,mN 13 12,mB 14 .lss 11 13]) (.cond (.t 14) .skip (.exit 0))) (.seq (.block 1 (.seq (.regD rm qP) (.cond (.t 26) (.seq (.reg [mT 4 false]) .ret) .skip))) (.reg [mV 15 5,mI 16 .add 15 1,mV 5 16])))))) (.seq (.reg [mT 4 true]) .ret)))
def Sj:List RS:=[.t 4]
def VJ(t0 t1 t5:AV)(loc:List (List AV))(h:AH):St:=⟨[t0,t1,.any,.any,.any,t5,.any,.any,.any,.any,.any,.any,.any,.any,.any,.any,.any,.any,.any,.any,.any,.any,.any,.any,.any,.any,.any],loc,h⟩
theorem OW(hw:TC Tryz.prog Θ Γ Rm (aW Sj K) ⟨[a0,a1,u,u,u,u,u,u,u,u,u,u,u,u,u,u,u,u,u,u,u,u,u,u,u,u,u],[],h⟩):T Tryz.prog Γ Fn.VW [a0,a1] h K:=
  TB Tryz.func29 (aG Tryz.f29) hw
def rL:List O:=[mV 17 0,mV 18 5,mX 19 13 17 18,mG 20 13 19,mV 21 1,mV 22 5,mX 23 13 21 22,mG 24 13 23,mC 25 Fn.Ol [.t 20,.t 24],mU 26 25]
def tY:List (List Nat):=[[],[],[0,1],[2],[],[],[4,5],[6],[3,7],[8]]
theorem Qv(gl:Gl)(Q:AE→St→Prop)(s:St):aw Tryz.prog Θ Γ gl (.regD rL tY) Q s=bV Tryz.prog Γ gl [mV 17 0,mV 18 5,mX 19 13 17 18,mG 20 13 19,mV 21 1,mV 22 5,mX 23 13 21 22,mG 24 13 23,mC 25 Fn.Ol [.t 20,.t 24],mU 26 25] (Q .normal) 10 (.q 0 (.q 1 (.q 2 (.q 3 (.q 4 (.q 5 (.q 6 (.q 7 (.q 8 (.q 9 (.done))))))))))) s:=eX rfl (by kernel_rfl) gl Q s
def Sb:C:=.seq (.reg [mT 4 false]) (.seq (.seq (.reg [mV 6 0,mN 7 6,mV 8 1,mN 9 8,mB 10 .neq 7 9]) (.cond (.t 10) (.seq (.reg [mT 4 false]) .ret) .skip)) (.seq (.seq (.reg [mK 5 0]) (.block 0 (.loop (.seq (.seq (.reg [mV 11 5,mV 12 0,mN 13 12,mB 14 .lss 11 13]) (.cond (.t 14) .skip (.exit 0))) (.seq (.block 1 (.seq (.regD rL tY) (.cond (.t 26) (.seq (.reg [mT 4 false]) .ret) .skip))) (.reg [mV 15 5,mI 16 .add 15 1,mV 5 16])))))) (.seq (.reg [mT 4 true]) .ret)))
def Px:List RS:=[.t 4]
def VY(t0 t1 t5:AV)(loc:List (List AV))(h:AH):St:=⟨[t0,t1,.any,.any,.any,t5,.any,.any,.any,.any,.any,.any,.any,.any,.any,.any,.any,.any,.any,.any,.any,.any,.any,.any,.any,.any,.any],loc,h⟩
theorem Un(hw:TC Tryz.prog Θ Γ Sb (aW Px K) ⟨[a0,a1,u,u,u,u,u,u,u,u,u,u,u,u,u,u,u,u,u,u,u,u,u,u,u,u,u],[],h⟩):T Tryz.prog Γ Fn.We [a0,a1] h K:=
  TB Tryz.func30 (aG Tryz.f30) hw
def Cv:C:=.seq (.reg [mK 4 0]) (.seq (.seq (.reg [mK 5 0]) (.block 0 (.loop (.seq (.seq (.reg [mV 6 5,mV 7 0,mN 8 7,mB 9 .lss 6 8]) (.cond (.t 9) .skip (.exit 0))) (.seq (.block 1 (.seq (.reg [mV 12 0,mV 13 5,mV 14 1,mX 15 12 12 13,mF 16 0 15,mS 1 16 14]) (.seq (.reg [mV 17 1,mI 18 .add 17 1,mV 1 18]) (.seq (.reg [mV 19 0,mV 20 5,mV 21 1,mX 22 12 19 20,mF 23 1 22,mS 1 23 21]) (.seq (.reg [mV 24 1,mI 25 .add 24 1,mV 1 25]) (.seq (.reg [mV 26 0,mV 27 5,mX 28 12 26 27,mF 29 2 28,mL 30 1 29,mV 31 1,mC 32 Fn.UG [.t 30,.t 31],mV 1 32]) (.seq (.reg [mV 33 0,mV 34 5,mV 35 1,mX 36 12 33 34,mF 37 3 36,mS 1 37 35]) (.seq (.reg [mV 38 1,mI 39 .add 38 1,mV 1 39]) (.seq (.reg [mV 40 0,mV 41 5,mV 42 1,mX 43 12 40 41,mF 44 4 43,mF 45 0 44,mS 1 45 42]) (.seq (.reg [mV 46 1,mI 47 .add 46 1,mV 1 47]) (.seq (.reg [mV 48 0,mV 49 5,mV 50 1,mX 51 12 48 49,mF 52 4 51,mF 53 1 52,mS 1 53 50]) (.seq (.reg [mV 54 1,mI 55 .add 54 1,mV 1 55]) (.seq (.reg [mV 56 0,mV 57 5,mX 58 12 56 57,mF 59 6 58,mL 60 1 59,mV 61 1,mC 62 Fn.VA [.t 60,.t 61],mV 1 62]) (.seq (.reg [mV 63 0,mV 64 5,mX 65 12 63 64,mF 66 7 65,mL 67 1 66,mV 68 1,mC 69 Fn.V4 [.t 67,.t 68],mV 1 69]) (.seq (.reg [mV 70 0,mV 71 5,mV 72 1,mX 73 12 70 71,mF 74 8 73,mS 1 74 72]) (.seq (.reg [mV 75 1,mI 76 .add 75 1,mV 1 76]) (.seq (.reg [mV 77 0,mV 78 5,mV 79 1,mX 80 12 77 78,mF 81 9 80,mS 1 81 79]) (.seq (.reg [mV 82 1,mI 83 .add 82 1,mV 1 83]) (.seq (.reg [mV 84 0,mV 85 5,mV 86 1,mX 87 12 84 85,mF 88 10 87,mS 1 88 86]) (.seq (.reg [mV 89 1,mI 90 .add 89 1,mV 1 90]) (.seq (.reg [mV 91 0,mV 92 5,mV 93 1,mX 94 12 91 92,mF 95 11 94,mS 1 95 93]) (.reg [mV 96 1,mI 97 .add 96 1,mV 1 97])))))))))))))))))))))) (.reg [mV 10 5,mI 11 .add 10 1,mV 5 11])))))) (.seq (.reg [mV 98 1,mV 4 98]) .ret))
def kC:List RS:=[.t 4]
def kI(t0 t1 t5:AV)(loc:List (List AV))(h:AH):St:=⟨[t0,t1,.any,.any,.any,t5,.any,.any,.any,.any,.any,.any,.any,.any,.any,.any,.any,.any,.any,.any,.any,.any,.any,.any,.any,.any,.any,.any,.any,.any,.any,.any,.any,.any,.any,.any,.any,.any,.any,.any,.any,.any,.any,.any,.any,.any,.any,.any,.any,.any,.any,.any,.any,.any,.any,.any,.any,.any,.any,.any,.any,.any,.any,.any,.any,.any,.any,.any,.any,.any,.any,.any,.any,.any,.any,.any,.any,.any,.any,.any,.any,.any,.any,.any,.any,.any,.any,.any,.any,.any,.any,.any,.any,.any,.any,.any,.any,.any,.any],loc,h⟩
theorem Hq(hw:TC Tryz.prog Θ Γ Cv (aW kC K) ⟨[a0,a1,u,u,u,u,u,u,u,u,u,u,u,u,u,u,u,u,u,u,u,u,u,u,u,u,u,u,u,u,u,u,u,u,u,u,u,u,u,u,u,u,u,u,u,u,u,u,u,u,u,u,u,u,u,u,u,u,u,u,u,u,u,u,u,u,u,u,u,u,u,u,u,u,u,u,u,u,u,u,u,u,u,u,u,u,u,u,u,u,u,u,u,u,u,u,u,u,u],[],h⟩):T Tryz.prog Γ Fn.WT [a0,a1] h K:=
  TB Tryz.func31 (aG Tryz.f31) hw
def Bh:C:=.seq (.reg [mK 4 0]) (.seq (.seq (.reg [mK 5 0]) (.block 0 (.loop (.seq (.seq (.reg [mV 6 5,mV 7 0,mN 8 7,mB 9 .lss 6 8]) (.cond (.t 9) .skip (.exit 0))) (.seq (.block 1 (.seq (.reg [mV 12 0,mV 13 5,mV 14 1,mX 15 7 12 13,mF 16 0 15,mS 1 16 14]) (.seq (.reg [mV 17 1,mI 18 .add 17 1,mV 1 18]) (.seq (.reg [mV 19 0,mV 20 5,mV 21 1,mC 22 Fn.Ei [.t 21],mX 23 7 19 20,mF 24 1 23,mS 1 24 22]) (.seq (.reg [mV 25 1,mI 26 .add 25 1,mV 1 26]) (.seq (.reg [mV 27 0,mV 28 5,mX 29 7 27 28,mF 30 2 29,mL 31 1 30,mV 32 1,mC 33 Fn.UG [.t 31,.t 32],mV 1 33]) (.seq (.reg [mV 34 0,mV 35 5,mV 36 1,mX 37 7 34 35,mF 38 3 37,mS 1 38 36]) (.seq (.reg [mV 39 1,mI 40 .add 39 1,mV 1 40]) (.seq (.reg [mV 41 0,mV 42 5,mV 43 1,mX 44 7 41 42,mF 45 4 44,mF 46 0 45,mS 1 46 43]) (.seq (.reg [mV 47 1,mI 48 .add 47 1,mV 1 48]) (.seq (.reg [mV 49 0,mV 50 5,mV 51 1,mX 52 7 49 50,mF 53 4 52,mF 54 1 53,mS 1 54 51]) (.seq (.reg [mV 55 1,mI 56 .add 55 1,mV 1 56]) (.seq (.reg [mV 57 0,mV 58 5,mV 59 1,mX 60 7 57 58,mF 61 4 60,mF 62 2 61,mS 1 62 59]) (.reg [mV 63 1,mI 64 .add 63 1,mV 1 64])))))))))))))) (.reg [mV 10 5,mI 11 .add 10 1,mV 5 11])))))) (.seq (.reg [mV 65 1,mV 4 65]) .ret))
def lX:List RS:=[.t 4]
def kQ(t0 t1 t5:AV)(loc:List (List AV))(h:AH):St:=⟨[t0,t1,.any,.any,.any,t5,.any,.any,.any,.any,.any,.any,.any,.any,.any,.any,.any,.any,.any,.any,.any,.any,.any,.any,.any,.any,.any,.any,.any,.any,.any,.any,.any,.any,.any,.any,.any,.any,.any,.any,.any,.any,.any,.any,.any,.any,.any,.any,.any,.any,.any,.any,.any,.any,.any,.any,.any,.any,.any,.any,.any,.any,.any,.any,.any,.any],loc,h⟩
theorem G7(hw:TC Tryz.prog Θ Γ Bh (aW lX K) ⟨[a0,a1,u,u,u,u,u,u,u,u,u,u,u,u,u,u,u,u,u,u,u,u,u,u,u,u,u,u,u,u,u,u,u,u,u,u,u,u,u,u,u,u,u,u,u,u,u,u,u,u,u,u,u,u,u,u,u,u,u,u,u,u,u,u,u,u],[],h⟩):T Tryz.prog Γ Fn.VA [a0,a1] h K:=
  TB Tryz.func32 (aG Tryz.f32) hw
def Cr:C:=.seq (.reg [mK 4 0]) (.seq (.seq (.reg [mK 5 0]) (.block 0 (.loop (.seq (.seq (.reg [mV 6 5,mV 7 0,mN 8 7,mB 9 .lss 6 8]) (.cond (.t 9) .skip (.exit 0))) (.seq (.block 1 (.seq (.reg [mV 12 0,mV 13 5,mV 14 1,mX 15 7 12 13,mF 16 0 15,mS 1 16 14]) (.seq (.reg [mV 17 1,mI 18 .add 17 1,mV 1 18]) (.seq (.reg [mV 19 0,mV 20 5,mV 21 1,mI 22 .rem 21 3,mI 23 .eql 22 0,mX 24 7 19 20,mF 25 1 24,mS 1 25 23]) (.seq (.reg [mV 26 1,mI 27 .add 26 1,mV 1 27]) (.seq (.reg [mV 28 0,mV 29 5,mX 30 7 28 29,mF 31 2 30,mL 32 1 31,mV 33 1,mC 34 Fn.Xo [.t 32,.t 33],mV 1 34]) (.seq (.reg [mV 35 0,mV 36 5,mV 37 1,mX 38 7 35 36,mF 39 3 38,mS 1 39 37]) (.seq (.reg [mV 40 1,mI 41 .add 40 1,mV 1 41]) (.seq (.reg [mV 42 0,mV 43 5,mX 44 7 42 43,mF 45 4 44,mL 46 1 45,mV 47 1,mC 48 Fn.Vc [.t 46,.t 47],mV 1 48]) (.seq (.reg [mV 49 0,mV 50 5,mV 51 1,mX 52 7 49 50,mF 53 5 52,mS 1 53 51]) (.seq (.reg [mV 54 1,mI 55 .add 54 1,mV 1 55]) (.reg [mV 56 0,mV 57 5,mX 58 7 56 57,mF 59 6 58,mL 60 1 59,mV 61 1,mC 62 Fn.Vc [.t 60,.t 61],mV 1 62])))))))))))) (.reg [mV 10 5,mI 11 .add 10 1,mV 5 11])))))) (.seq (.reg [mV 63 1,mV 4 63]) .ret))
def kz:List RS:=[.t 4]
def lk(t0 t1 t5:AV)(loc:List (List AV))(h:AH):St:=⟨[t0,t1,.any,.any,.any,t5,.any,.any,.any,.any,.any,.any,.any,.any,.any,.any,.any,.any,.any,.any,.any,.any,.any,.any,.any,.any,.any,.any,.any,.any,.any,.any,.any,.any,.any,.any,.any,.any,.any,.any,.any,.any,.any,.any,.any,.any,.any,.any,.any,.any,.any,.any,.any,.any,.any,.any,.any,.any,.any,.any,.any,.any,.any,.any],loc,h⟩
theorem G0(hw:TC Tryz.prog Θ Γ Cr (aW kz K) ⟨[a0,a1,u,u,u,u,u,u,u,u,u,u,u,u,u,u,u,u,u,u,u,u,u,u,u,u,u,u,u,u,u,u,u,u,u,u,u,u,u,u,u,u,u,u,u,u,u,u,u,u,u,u,u,u,u,u,u,u,u,u,u,u,u,u],[],h⟩):T Tryz.prog Γ Fn.Xw [a0,a1] h K:=
  TB Tryz.func33 (aG Tryz.f33) hw
def A9:C:=.seq (.reg [mK 4 0]) (.seq (.seq (.reg [mK 5 0]) (.block 0 (.loop (.seq (.seq (.reg [mV 6 5,mV 7 0,mN 8 7,mB 9 .lss 6 8]) (.cond (.t 9) .skip (.exit 0))) (.seq (.block 1 (.seq (.reg [mV 12 0,mV 13 5,mV 14 1,mX 15 13 12 13,mF 16 0 15,mS 1 16 14]) (.seq (.reg [mV 17 1,mI 18 .add 17 1,mV 1 18]) (.seq (.reg [mV 19 0,mV 20 5,mV 21 1,mX 22 13 19 20,mF 23 1 22,mF 24 0 23,mS 1 24 21]) (.seq (.reg [mV 25 1,mI 26 .add 25 1,mV 1 26]) (.seq (.reg [mV 27 0,mV 28 5,mV 29 1,mX 30 13 27 28,mF 31 1 30,mF 32 1 31,mS 1 32 29]) (.seq (.reg [mV 33 1,mI 34 .add 33 1,mV 1 34]) (.seq (.reg [mV 35 0,mV 36 5,mV 37 1,mX 38 13 35 36,mF 39 1 38,mF 40 2 39,mS 1 40 37]) (.seq (.reg [mV 41 1,mI 42 .add 41 1,mV 1 42]) (.seq (.reg [mV 43 0,mV 44 5,mV 45 1,mX 46 13 43 44,mF 47 1 46,mF 48 3 47,mS 1 48 45]) (.seq (.reg [mV 49 1,mI 50 .add 49 1,mV 1 50]) (.seq (.reg [mV 51 0,mV 52 5,mV 53 1,mC 54 Fn.Ei [.t 53],mX 55 13 51 52,mF 56 1 55,mF 57 4 56,mS 1 57 54]) (.seq (.reg [mV 58 1,mI 59 .add 58 1,mV 1 59]) (.seq (.reg [mV 60 0,mV 61 5,mX 62 13 60 61,mF 63 1 62,mF 64 5 63,mL 65 1 64,mV 66 1,mC 67 Fn.Wm [.t 65,.t 66],mV 1 67]) (.seq (.reg [mV 68 0,mV 69 5,mV 70 1,mX 71 13 68 69,mF 72 1 71,mF 73 6 72,mF 74 0 73,mS 1 74 70]) (.seq (.reg [mV 75 1,mI 76 .add 75 1,mV 1 76]) (.seq (.reg [mV 77 0,mV 78 5,mV 79 1,mX 80 13 77 78,mF 81 1 80,mF 82 6 81,mF 83 1 82,mS 1 83 79]) (.seq (.reg [mV 84 1,mI 85 .add 84 1,mV 1 85]) (.seq (.reg [mV 86 0,mV 87 5,mV 88 1,mX 89 13 86 87,mF 90 1 89,mF 91 8 90,mS 1 91 88]) (.seq (.reg [mV 92 1,mI 93 .add 92 1,mV 1 93]) (.seq (.reg [mV 94 0,mV 95 5,mV 96 1,mX 97 13 94 95,mF 98 1 97,mF 99 9 98,mF 100 0 99,mS 1 100 96]) (.seq (.reg [mV 101 1,mI 102 .add 101 1,mV 1 102]) (.seq (.reg [mV 103 0,mV 104 5,mV 105 1,mX 106 13 103 104,mF 107 1 106,mF 108 9 107,mF 109 1 108,mS 1 109 105]) (.seq (.reg [mV 110 1,mI 111 .add 110 1,mV 1 111]) (.seq (.reg [mV 112 0,mV 113 5,mV 114 1,mX 115 13 112 113,mF 116 1 115,mF 117 9 116,mF 118 2 117,mS 1 118 114]) (.reg [mV 119 1,mI 120 .add 119 1,mV 1 120])))))))))))))))))))))))))) (.reg [mV 10 5,mI 11 .add 10 1,mV 5 11])))))) (.seq (.reg [mV 121 1,mV 4 121]) .ret))
def l7:List RS:=[.t 4]
def kZ(t0 t1 t5:AV)(loc:List (List AV))(h:AH):St:=⟨[t0,t1,.any,.any,.any,t5,.any,.any,.any,.any,.any,.any,.any,.any,.any,.any,.any,.any,.any,.any,.any,.any,.any,.any,.any,.any,.any,.any,.any,.any,.any,.any,.any,.any,.any,.any,.any,.any,.any,.any,.any,.any,.any,.any,.any,.any,.any,.any,.any,.any,.any,.any,.any,.any,.any,.any,.any,.any,.any,.any,.any,.any,.any,.any,.any,.any,.any,.any,.any,.any,.any,.any,.any,.any,.any,.any,.any,.any,.any,.any,.any,.any,.any,.any,.any,.any,.any,.any,.any,.any,.any,.any,.any,.any,.any,.any,.any,.any,.any,.any,.any,.any,.any,.any,.any,.any,.any,.any,.any,.any,.any,.any,.any,.any,.any,.any,.any,.any,.any,.any,.any,.any],loc,h⟩
theorem Hj(hw:TC Tryz.prog Θ Γ A9 (aW l7 K) ⟨[a0,a1,u,u,u,u,u,u,u,u,u,u,u,u,u,u,u,u,u,u,u,u,u,u,u,u,u,u,u,u,u,u,u,u,u,u,u,u,u,u,u,u,u,u,u,u,u,u,u,u,u,u,u,u,u,u,u,u,u,u,u,u,u,u,u,u,u,u,u,u,u,u,u,u,u,u,u,u,u,u,u,u,u,u,u,u,u,u,u,u,u,u,u,u,u,u,u,u,u,u,u,u,u,u,u,u,u,u,u,u,u,u,u,u,u,u,u,u,u,u,u,u],[],h⟩):T Tryz.prog Γ Fn.WV [a0,a1] h K:=
  TB Tryz.func34 (aG Tryz.f34) hw
def Ip:C:=.seq (.reg [mK 4 0]) (.seq (.seq (.reg [mK 5 0]) (.block 0 (.loop (.seq (.seq (.reg [mV 6 5,mV 7 0,mN 8 7,mB 9 .lss 6 8]) (.cond (.t 9) .skip (.exit 0))) (.seq (.block 1 (.seq (.seq (.reg [mV 12 0,mV 13 5,mX 14 12 12 13,mF 15 0 14,mL 16 1 15,mV 17 1,mB 18 .neq 16 17]) (.cond (.t 18) (.seq (.reg [mK 4 (-1)]) .ret) .skip)) (.seq (.reg [mV 19 1,mI 20 .add 19 1,mV 1 20]) (.seq (.seq (.reg [mV 21 0,mV 22 5,mX 23 12 21 22,mF 24 1 23,mL 25 1 24,mV 26 1,mB 27 .neq 25 26]) (.cond (.t 27) (.seq (.reg [mK 4 (-1)]) .ret) .skip)) (.seq (.reg [mV 28 1,mI 29 .add 28 1,mV 1 29]) (.seq (.reg [mV 30 0,mV 31 5,mX 32 12 30 31,mF 33 2 32,mL 34 1 33,mV 35 1,mC 36 Fn.Vt [.t 34,.t 35],mV 1 36]) (.seq (.seq (.reg [mV 37 1,mI 38 .lss 37 0]) (.cond (.t 38) (.seq (.reg [mK 4 (-1)]) .ret) .skip)) (.seq (.seq (.reg [mV 39 0,mV 40 5,mX 41 12 39 40,mF 42 3 41,mL 43 1 42,mV 44 1,mB 45 .neq 43 44]) (.cond (.t 45) (.seq (.reg [mK 4 (-1)]) .ret) .skip)) (.seq (.reg [mV 46 1,mI 47 .add 46 1,mV 1 47]) (.seq (.seq (.reg [mV 48 0,mV 49 5,mX 50 12 48 49,mF 51 4 50,mF 52 0 51,mL 53 1 52,mV 54 1,mB 55 .neq 53 54]) (.cond (.t 55) (.seq (.reg [mK 4 (-1)]) .ret) .skip)) (.seq (.reg [mV 56 1,mI 57 .add 56 1,mV 1 57]) (.seq (.seq (.reg [mV 58 0,mV 59 5,mX 60 12 58 59,mF 61 4 60,mF 62 1 61,mL 63 1 62,mV 64 1,mB 65 .neq 63 64]) (.cond (.t 65) (.seq (.reg [mK 4 (-1)]) .ret) .skip)) (.seq (.reg [mV 66 1,mI 67 .add 66 1,mV 1 67]) (.seq (.reg [mV 68 0,mV 69 5,mX 70 12 68 69,mF 71 6 70,mL 72 1 71,mV 73 1,mC 74 Fn.Vb [.t 72,.t 73],mV 1 74]) (.seq (.seq (.reg [mV 75 1,mI 76 .lss 75 0]) (.cond (.t 76) (.seq (.reg [mK 4 (-1)]) .ret) .skip)) (.seq (.reg [mV 77 0,mV 78 5,mX 79 12 77 78,mF 80 7 79,mL 81 1 80,mV 82 1,mC 83 Fn.WN [.t 81,.t 82],mV 1 83]) (.seq (.seq (.reg [mV 84 1,mI 85 .lss 84 0]) (.cond (.t 85) (.seq (.reg [mK 4 (-1)]) .ret) .skip)) (.seq (.seq (.reg [mV 86 0,mV 87 5,mX 88 12 86 87,mF 89 8 88,mL 90 1 89,mV 91 1,mB 92 .neq 90 91]) (.cond (.t 92) (.seq (.reg [mK 4 (-1)]) .ret) .skip)) (.seq (.reg [mV 93 1,mI 94 .add 93 1,mV 1 94]) (.seq (.seq (.reg [mV 95 0,mV 96 5,mX 97 12 95 96,mF 98 9 97,mL 99 1 98,mV 100 1,mB 101 .neq 99 100]) (.cond (.t 101) (.seq (.reg [mK 4 (-1)]) .ret) .skip)) (.seq (.reg [mV 102 1,mI 103 .add 102 1,mV 1 103]) (.seq (.seq (.reg [mV 104 0,mV 105 5,mX 106 12 104 105,mF 107 10 106,mL 108 1 107,mV 109 1,mB 110 .neq 108 109]) (.cond (.t 110) (.seq (.reg [mK 4 (-1)]) .ret) .skip)) (.seq (.reg [mV 111 1,mI 112 .add 111 1,mV 1 112]) (.seq (.seq (.reg [mV 113 0,mV 114 5,mX 115 12 113 114,mF 116 11 115,mL 117 1 116,mV 118 1,mB 119 .neq 117 118]) (.cond (.t 119) (.seq (.reg [mK 4 (-1)]) .ret) .skip)) (.reg [mV 120 1,mI 121 .add 120 1,mV 1 121]))))))))))))))))))))))))) (.reg [mV 10 5,mI 11 .add 10 1,mV 5 11])))))) (.seq (.reg [mV 122 1,mV 4 122]) .ret))
def mW:List RS:=[.t 4]
def uh(t0 t1 t5:AV)(loc:List (List AV))(h:AH):St:=⟨[t0,t1,.any,.any,.any,t5,.any,.any,.any,.any,.any,.any,.any,.any,.any,.any,.any,.any,.any,.any,.any,.any,.any,.any,.any,.any,.any,.any,.any,.any,.any,.any,.any,.any,.any,.any,.any,.any,.any,.any,.any,.any,.any,.any,.any,.any,.any,.any,.any,.any,.any,.any,.any,.any,.any,.any,.any,.any,.any,.any,.any,.any,.any,.any,.any,.any,.any,.any,.any,.any,.any,.any,.any,.any,.any,.any,.any,.any,.any,.any,.any,.any,.any,.any,.any,.any,.any,.any,.any,.any,.any,.any,.any,.any,.any,.any,.any,.any,.any,.any,.any,.any,.any,.any,.any,.any,.any,.any,.any,.any,.any,.any,.any,.any,.any,.any,.any,.any,.any,.any,.any,.any,.any],loc,h⟩
theorem P7(hw:TC Tryz.prog Θ Γ Ip (aW mW K) ⟨[a0,a1,u,u,u,u,u,u,u,u,u,u,u,u,u,u,u,u,u,u,u,u,u,u,u,u,u,u,u,u,u,u,u,u,u,u,u,u,u,u,u,u,u,u,u,u,u,u,u,u,u,u,u,u,u,u,u,u,u,u,u,u,u,u,u,u,u,u,u,u,u,u,u,u,u,u,u,u,u,u,u,u,u,u,u,u,u,u,u,u,u,u,u,u,u,u,u,u,u,u,u,u,u,u,u,u,u,u,u,u,u,u,u,u,u,u,u,u,u,u,u,u,u],[],h⟩):T Tryz.prog Γ Fn.Wh [a0,a1] h K:=
  TB Tryz.func35 (aG Tryz.f35) hw
def su:List O:=[mV 21 0,mV 22 5,mX 23 7 21 22,mF 24 1 23,mL 25 1 24,mV 26 1,mC 27 Fn.Ei [.t 26],mB 28 .neq 25 27]
def sx:List (List Nat):=[[],[],[0,1],[2],[3],[],[5],[4,6]]
theorem px(gl:Gl)(Q:AE→St→Prop)(s:St):aw Tryz.prog Θ Γ gl (.regD su sx) Q s=bV Tryz.prog Γ gl [mV 21 0,mV 22 5,mX 23 7 21 22,mF 24 1 23,mL 25 1 24,mV 26 1,mC 27 Fn.Ei [.t 26],mB 28 .neq 25 27] (Q .normal) 8 (.q 0 (.q 1 (.q 2 (.q 3 (.q 4 (.q 5 (.st 6 [24] (.q 7 (.done))))))))) s:=eX rfl (by kernel_rfl) gl Q s
def Jl:C:=.seq (.reg [mK 4 0]) (.seq (.seq (.reg [mK 5 0]) (.block 0 (.loop (.seq (.seq (.reg [mV 6 5,mV 7 0,mN 8 7,mB 9 .lss 6 8]) (.cond (.t 9) .skip (.exit 0))) (.seq (.block 1 (.seq (.seq (.reg [mV 12 0,mV 13 5,mX 14 7 12 13,mF 15 0 14,mL 16 1 15,mV 17 1,mB 18 .neq 16 17]) (.cond (.t 18) (.seq (.reg [mK 4 (-1)]) .ret) .skip)) (.seq (.reg [mV 19 1,mI 20 .add 19 1,mV 1 20]) (.seq (.seq (.regD su sx) (.cond (.t 28) (.seq (.reg [mK 4 (-1)]) .ret) .skip)) (.seq (.reg [mV 29 1,mI 30 .add 29 1,mV 1 30]) (.seq (.reg [mV 31 0,mV 32 5,mX 33 7 31 32,mF 34 2 33,mL 35 1 34,mV 36 1,mC 37 Fn.Vt [.t 35,.t 36],mV 1 37]) (.seq (.seq (.reg [mV 38 1,mI 39 .lss 38 0]) (.cond (.t 39) (.seq (.reg [mK 4 (-1)]) .ret) .skip)) (.seq (.seq (.reg [mV 40 0,mV 41 5,mX 42 7 40 41,mF 43 3 42,mL 44 1 43,mV 45 1,mB 46 .neq 44 45]) (.cond (.t 46) (.seq (.reg [mK 4 (-1)]) .ret) .skip)) (.seq (.reg [mV 47 1,mI 48 .add 47 1,mV 1 48]) (.seq (.seq (.reg [mV 49 0,mV 50 5,mX 51 7 49 50,mF 52 4 51,mF 53 0 52,mL 54 1 53,mV 55 1,mB 56 .neq 54 55]) (.cond (.t 56) (.seq (.reg [mK 4 (-1)]) .ret) .skip)) (.seq (.reg [mV 57 1,mI 58 .add 57 1,mV 1 58]) (.seq (.seq (.reg [mV 59 0,mV 60 5,mX 61 7 59 60,mF 62 4 61,mF 63 1 62,mL 64 1 63,mV 65 1,mB 66 .neq 64 65]) (.cond (.t 66) (.seq (.reg [mK 4 (-1)]) .ret) .skip)) (.seq (.reg [mV 67 1,mI 68 .add 67 1,mV 1 68]) (.seq (.seq (.reg [mV 69 0,mV 70 5,mX 71 7 69 70,mF 72 4 71,mF 73 2 72,mL 74 1 73,mV 75 1,mB 76 .neq 74 75]) (.cond (.t 76) (.seq (.reg [mK 4 (-1)]) .ret) .skip)) (.reg [mV 77 1,mI 78 .add 77 1,mV 1 78]))))))))))))))) (.reg [mV 10 5,mI 11 .add 10 1,mV 5 11])))))) (.seq (.reg [mV 79 1,mV 4 79]) .ret))
def pL:List RS:=[.t 4]
def vF(t0 t1 t5:AV)(loc:List (List AV))(h:AH):St:=⟨[t0,t1,.any,.any,.any,t5,.any,.any,.any,.any,.any,.any,.any,.any,.any,.any,.any,.any,.any,.any,.any,.any,.any,.any,.any,.any,.any,.any,.any,.any,.any,.any,.any,.any,.any,.any,.any,.any,.any,.any,.any,.any,.any,.any,.any,.any,.any,.any,.any,.any,.any,.any,.any,.any,.any,.any,.any,.any,.any,.any,.any,.any,.any,.any,.any,.any,.any,.any,.any,.any,.any,.any,.any,.any,.any,.any,.any,.any,.any,.any],loc,h⟩
theorem Q6(hw:TC Tryz.prog Θ Γ Jl (aW pL K) ⟨[a0,a1,u,u,u,u,u,u,u,u,u,u,u,u,u,u,u,u,u,u,u,u,u,u,u,u,u,u,u,u,u,u,u,u,u,u,u,u,u,u,u,u,u,u,u,u,u,u,u,u,u,u,u,u,u,u,u,u,u,u,u,u,u,u,u,u,u,u,u,u,u,u,u,u,u,u,u,u,u,u],[],h⟩):T Tryz.prog Γ Fn.Vb [a0,a1] h K:=
  TB Tryz.func36 (aG Tryz.f36) hw
def Fb:C:=.seq (.reg [mK 4 0]) (.seq (.seq (.reg [mK 5 0]) (.block 0 (.loop (.seq (.seq (.reg [mV 6 5,mV 7 0,mN 8 7,mB 9 .lss 6 8]) (.cond (.t 9) .skip (.exit 0))) (.seq (.block 1 (.seq (.seq (.reg [mV 12 0,mV 13 5,mX 14 7 12 13,mF 15 0 14,mL 16 1 15,mV 17 1,mB 18 .neq 16 17]) (.cond (.t 18) (.seq (.reg [mK 4 (-1)]) .ret) .skip)) (.seq (.reg [mV 19 1,mI 20 .add 19 1,mV 1 20]) (.seq (.seq (.reg [mV 21 0,mV 22 5,mX 23 7 21 22,mF 24 1 23,mL 25 1 24,mV 26 1,mI 27 .rem 26 3,mI 28 .eql 27 0,⟨(some 29),none,.bin .neq (.bool) (.t 25) (.t 28)⟩]) (.cond (.t 29) (.seq (.reg [mK 4 (-1)]) .ret) .skip)) (.seq (.reg [mV 30 1,mI 31 .add 30 1,mV 1 31]) (.seq (.reg [mV 32 0,mV 33 5,mX 34 7 32 33,mF 35 2 34,mL 36 1 35,mV 37 1,mC 38 Fn.VT [.t 36,.t 37],mV 1 38]) (.seq (.seq (.reg [mV 39 1,mI 40 .lss 39 0]) (.cond (.t 40) (.seq (.reg [mK 4 (-1)]) .ret) .skip)) (.seq (.seq (.reg [mV 41 0,mV 42 5,mX 43 7 41 42,mF 44 3 43,mL 45 1 44,mV 46 1,mB 47 .neq 45 46]) (.cond (.t 47) (.seq (.reg [mK 4 (-1)]) .ret) .skip)) (.seq (.reg [mV 48 1,mI 49 .add 48 1,mV 1 49]) (.seq (.reg [mV 50 0,mV 51 5,mX 52 7 50 51,mF 53 4 52,mL 54 1 53,mV 55 1,mC 56 Fn.UA [.t 54,.t 55],mV 1 56]) (.seq (.seq (.reg [mV 57 1,mI 58 .lss 57 0]) (.cond (.t 58) (.seq (.reg [mK 4 (-1)]) .ret) .skip)) (.seq (.seq (.reg [mV 59 0,mV 60 5,mX 61 7 59 60,mF 62 5 61,mL 63 1 62,mV 64 1,mB 65 .neq 63 64]) (.cond (.t 65) (.seq (.reg [mK 4 (-1)]) .ret) .skip)) (.seq (.reg [mV 66 1,mI 67 .add 66 1,mV 1 67]) (.seq (.reg [mV 68 0,mV 69 5,mX 70 7 68 69,mF 71 6 70,mL 72 1 71,mV 73 1,mC 74 Fn.UA [.t 72,.t 73],mV 1 74]) (.seq (.reg [mV 75 1,mI 76 .lss 75 0]) (.cond (.t 76) (.seq (.reg [mK 4 (-1)]) .ret) .skip)))))))))))))))) (.reg [mV 10 5,mI 11 .add 10 1,mV 5 11])))))) (.seq (.reg [mV 77 1,mV 4 77]) .ret))
def nU:List RS:=[.t 4]
def ub(t0 t1 t5:AV)(loc:List (List AV))(h:AH):St:=⟨[t0,t1,.any,.any,.any,t5,.any,.any,.any,.any,.any,.any,.any,.any,.any,.any,.any,.any,.any,.any,.any,.any,.any,.any,.any,.any,.any,.any,.any,.any,.any,.any,.any,.any,.any,.any,.any,.any,.any,.any,.any,.any,.any,.any,.any,.any,.any,.any,.any,.any,.any,.any,.any,.any,.any,.any,.any,.any,.any,.any,.any,.any,.any,.any,.any,.any,.any,.any,.any,.any,.any,.any,.any,.any,.any,.any,.any,.any],loc,h⟩
theorem Qy(hw:TC Tryz.prog Θ Γ Fb (aW nU K) ⟨[a0,a1,u,u,u,u,u,u,u,u,u,u,u,u,u,u,u,u,u,u,u,u,u,u,u,u,u,u,u,u,u,u,u,u,u,u,u,u,u,u,u,u,u,u,u,u,u,u,u,u,u,u,u,u,u,u,u,u,u,u,u,u,u,u,u,u,u,u,u,u,u,u,u,u,u,u,u,u],[],h⟩):T Tryz.prog Γ Fn.W4 [a0,a1] h K:=
  TB Tryz.func37 (aG Tryz.f37) hw
def rQ:List O:=[mV 61 0,mV 62 5,mX 63 13 61 62,mF 64 1 63,mF 65 4 64,mL 66 1 65,mV 67 1,mC 68 Fn.Ei [.t 67],mB 69 .neq 66 68]
def tw:List (List Nat):=[[],[],[0,1],[2],[3],[4],[],[6],[5,7]]
theorem pK(gl:Gl)(Q:AE→St→Prop)(s:St):aw Tryz.prog Θ Γ gl (.regD rQ tw) Q s=bV Tryz.prog Γ gl [mV 61 0,mV 62 5,mX 63 13 61 62,mF 64 1 63,mF 65 4 64,mL 66 1 65,mV 67 1,mC 68 Fn.Ei [.t 67],mB 69 .neq 66 68] (Q .normal) 9 (.q 0 (.q 1 (.q 2 (.q 3 (.q 4 (.q 5 (.q 6 (.st 7 [65] (.q 8 (.done)))))))))) s:=eX rfl (by kernel_rfl) gl Q s
def GP:C:=.seq (.reg [mK 4 0]) (.seq (.seq (.reg [mK 5 0]) (.block 0 (.loop (.seq (.seq (.reg [mV 6 5,mV 7 0,mN 8 7,mB 9 .lss 6 8]) (.cond (.t 9) .skip (.exit 0))) (.seq (.block 1 (.seq (.seq (.reg [mV 12 0,mV 13 5,mX 14 13 12 13,mF 15 0 14,mL 16 1 15,mV 17 1,mB 18 .neq 16 17]) (.cond (.t 18) (.seq (.reg [mK 4 (-1)]) .ret) .skip)) (.seq (.reg [mV 19 1,mI 20 .add 19 1,mV 1 20]) (.seq (.seq (.reg [mV 21 0,mV 22 5,mX 23 13 21 22,mF 24 1 23,mF 25 0 24,mL 26 1 25,mV 27 1,mB 28 .neq 26 27]) (.cond (.t 28) (.seq (.reg [mK 4 (-1)]) .ret) .skip)) (.seq (.reg [mV 29 1,mI 30 .add 29 1,mV 1 30]) (.seq (.seq (.reg [mV 31 0,mV 32 5,mX 33 13 31 32,mF 34 1 33,mF 35 1 34,mL 36 1 35,mV 37 1,mB 38 .neq 36 37]) (.cond (.t 38) (.seq (.reg [mK 4 (-1)]) .ret) .skip)) (.seq (.reg [mV 39 1,mI 40 .add 39 1,mV 1 40]) (.seq (.seq (.reg [mV 41 0,mV 42 5,mX 43 13 41 42,mF 44 1 43,mF 45 2 44,mL 46 1 45,mV 47 1,mB 48 .neq 46 47]) (.cond (.t 48) (.seq (.reg [mK 4 (-1)]) .ret) .skip)) (.seq (.reg [mV 49 1,mI 50 .add 49 1,mV 1 50]) (.seq (.seq (.reg [mV 51 0,mV 52 5,mX 53 13 51 52,mF 54 1 53,mF 55 3 54,mL 56 1 55,mV 57 1,mB 58 .neq 56 57]) (.cond (.t 58) (.seq (.reg [mK 4 (-1)]) .ret) .skip)) (.seq (.reg [mV 59 1,mI 60 .add 59 1,mV 1 60]) (.seq (.seq (.regD rQ tw) (.cond (.t 69) (.seq (.reg [mK 4 (-1)]) .ret) .skip)) (.seq (.reg [mV 70 1,mI 71 .add 70 1,mV 1 71]) (.seq (.reg [mV 72 0,mV 73 5,mX 74 13 72 73,mF 75 1 74,mF 76 5 75,mL 77 1 76,mV 78 1,mC 79 Fn.Wl [.t 77,.t 78],mV 1 79]) (.seq (.seq (.reg [mV 80 1,mI 81 .lss 80 0]) (.cond (.t 81) (.seq (.reg [mK 4 (-1)]) .ret) .skip)) (.seq (.seq (.reg [mV 82 0,mV 83 5,mX 84 13 82 83,mF 85 1 84,mF 86 6 85,mF 87 0 86,mL 88 1 87,mV 89 1,mB 90 .neq 88 89]) (.cond (.t 90) (.seq (.reg [mK 4 (-1)]) .ret) .skip)) (.seq (.reg [mV 91 1,mI 92 .add 91 1,mV 1 92]) (.seq (.seq (.reg [mV 93 0,mV 94 5,mX 95 13 93 94,mF 96 1 95,mF 97 6 96,mF 98 1 97,mL 99 1 98,mV 100 1,mB 101 .neq 99 100]) (.cond (.t 101) (.seq (.reg [mK 4 (-1)]) .ret) .skip)) (.seq (.reg [mV 102 1,mI 103 .add 102 1,mV 1 103]) (.seq (.seq (.reg [mV 104 0,mV 105 5,mX 106 13 104 105,mF 107 1 106,mF 108 8 107,mL 109 1 108,mV 110 1,mB 111 .neq 109 110]) (.cond (.t 111) (.seq (.reg [mK 4 (-1)]) .ret) .skip)) (.seq (.reg [mV 112 1,mI 113 .add 112 1,mV 1 113]) (.seq (.seq (.reg [mV 114 0,mV 115 5,mX 116 13 114 115,mF 117 1 116,mF 118 9 117,mF 119 0 118,mL 120 1 119,mV 121 1,mB 122 .neq 120 121]) (.cond (.t 122) (.seq (.reg [mK 4 (-1)]) .ret) .skip)) (.seq (.reg [mV 123 1,mI 124 .add 123 1,mV 1 124]) (.seq (.seq (.reg [mV 125 0,mV 126 5,mX 127 13 125 126,mF 128 1 127,mF 129 9 128,mF 130 1 129,mL 131 1 130,mV 132 1,mB 133 .neq 131 132]) (.cond (.t 133) (.seq (.reg [mK 4 (-1)]) .ret) .skip)) (.seq (.reg [mV 134 1,mI 135 .add 134 1,mV 1 135]) (.seq (.seq (.reg [mV 136 0,mV 137 5,mX 138 13 136 137,mF 139 1 138,mF 140 9 139,mF 141 2 140,mL 142 1 141,mV 143 1,mB 144 .neq 142 143]) (.cond (.t 144) (.seq (.reg [mK 4 (-1)]) .ret) .skip)) (.reg [mV 145 1,mI 146 .add 145 1,mV 1 146]))))))))))))))))))))))))))) (.reg [mV 10 5,mI 11 .add 10 1,mV 5 11])))))) (.seq (.reg [mV 147 1,mV 4 147]) .ret))
def qG:List RS:=[.t 4]
def uS(t0 t1 t5:AV)(loc:List (List AV))(h:AH):St:=⟨[t0,t1,.any,.any,.any,t5,.any,.any,.any,.any,.any,.any,.any,.any,.any,.any,.any,.any,.any,.any,.any,.any,.any,.any,.any,.any,.any,.any,.any,.any,.any,.any,.any,.any,.any,.any,.any,.any,.any,.any,.any,.any,.any,.any,.any,.any,.any,.any,.any,.any,.any,.any,.any,.any,.any,.any,.any,.any,.any,.any,.any,.any,.any,.any,.any,.any,.any,.any,.any,.any,.any,.any,.any,.any,.any,.any,.any,.any,.any,.any,.any,.any,.any,.any,.any,.any,.any,.any,.any,.any,.any,.any,.any,.any,.any,.any,.any,.any,.any,.any,.any,.any,.any,.any,.any,.any,.any,.any,.any,.any,.any,.any,.any,.any,.any,.any,.any,.any,.any,.any,.any,.any,.any,.any,.any,.any,.any,.any,.any,.any,.any,.any,.any,.any,.any,.any,.any,.any,.any,.any,.any,.any,.any,.any,.any,.any,.any,.any],loc,h⟩
theorem TU(hw:TC Tryz.prog Θ Γ GP (aW qG K) ⟨[a0,a1,u,u,u,u,u,u,u,u,u,u,u,u,u,u,u,u,u,u,u,u,u,u,u,u,u,u,u,u,u,u,u,u,u,u,u,u,u,u,u,u,u,u,u,u,u,u,u,u,u,u,u,u,u,u,u,u,u,u,u,u,u,u,u,u,u,u,u,u,u,u,u,u,u,u,u,u,u,u,u,u,u,u,u,u,u,u,u,u,u,u,u,u,u,u,u,u,u,u,u,u,u,u,u,u,u,u,u,u,u,u,u,u,u,u,u,u,u,u,u,u,u,u,u,u,u,u,u,u,u,u,u,u,u,u,u,u,u,u,u,u,u,u,u,u,u,u],[],h⟩):T Tryz.prog Γ Fn.Xy [a0,a1] h K:=
  TB Tryz.func38 (aG Tryz.f38) hw
def II:C:=.seq (.reg [mA 2 0,mK 4 0]) (.seq (.reg [mF 5 2 2,mL 6 1 5,mV 7 1,mC 8 Fn.Vz [.t 6,.t 7],mV 1 8]) (.seq (.seq (.reg [mV 9 1,mI 10 .lss 9 0]) (.cond (.t 10) (.seq (.reg [mK 4 (-1)]) .ret) .skip)) (.seq (.reg [mF 11 6 2,mL 12 1 11,mV 13 1,mC 14 Fn.UL [.t 12,.t 13],mV 1 14]) (.seq (.seq (.reg [mV 15 1,mI 16 .lss 15 0]) (.cond (.t 16) (.seq (.reg [mK 4 (-1)]) .ret) .skip)) (.seq (.reg [mF 17 7 2,mL 18 1 17,mV 19 1,mC 20 Fn.Xl [.t 18,.t 19],mV 1 20]) (.seq (.seq (.reg [mV 21 1,mI 22 .lss 21 0]) (.cond (.t 22) (.seq (.reg [mK 4 (-1)]) .ret) .skip)) (.seq (.reg [mV 23 1,mV 4 23]) .ret)))))))
def jM:List RS:=[.t 4]
theorem N2(hw:TC Tryz.prog Θ Γ II (aW jM K) ⟨[a0,a1,u,u,u,u,u,u,u,u,u,u,u,u,u,u,u,u,u,u,u,u,u,u],[],h⟩):T Tryz.prog Γ Fn.UU [a0,a1] h K:=
  TB Tryz.func39 (aG Tryz.f39) hw
def Fz:C:=.seq (.reg [mA 2 0,mK 4 0]) (.seq (.reg [mV 5 1,mF 6 1 2,mL 7 1 6,⟨(some 8),none,.len true (.t 7)⟩,mB 9 .sub 5 8,mV 1 9]) (.seq (.seq (.reg [mV 10 1,mI 11 .lss 10 0]) (.cond (.t 11) (.seq (.reg [mK 4 (-1)]) .ret) .skip)) (.seq (.reg [mF 12 2 2,mL 13 1 12,mV 14 1,mC 15 Fn.Vz [.t 13,.t 14],mV 1 15]) (.seq (.seq (.reg [mV 16 1,mI 17 .lss 16 0]) (.cond (.t 17) (.seq (.reg [mK 4 (-1)]) .ret) .skip)) (.seq (.reg [mV 18 1,mV 4 18]) .ret)))))
def qu:List RS:=[.t 4]
theorem NZ(hw:TC Tryz.prog Θ Γ Fz (aW qu K) ⟨[a0,a1,u,u,u,u,u,u,u,u,u,u,u,u,u,u,u,u,u],[],h⟩):T Tryz.prog Γ Fn.UF [a0,a1] h K:=
  TB Tryz.func40 (aG Tryz.f40) hw
def Fk:C:=.seq (.reg [mA 2 0,mK 4 0]) (.seq (.reg [mF 5 2 2,mL 6 1 5,mV 7 1,mC 8 Fn.Wz [.t 6,.t 7],mV 1 8]) (.seq (.seq (.reg [mV 9 1,mI 10 .lss 9 0]) (.cond (.t 10) (.seq (.reg [mK 4 (-1)]) .ret) .skip)) (.seq (.reg [mF 11 4 2,mL 12 1 11,mV 13 1,mC 14 Fn.Va [.t 12,.t 13],mV 1 14]) (.seq (.seq (.reg [mV 15 1,mI 16 .lss 15 0]) (.cond (.t 16) (.seq (.reg [mK 4 (-1)]) .ret) .skip)) (.seq (.reg [mF 17 6 2,mL 18 1 17,mV 19 1,mC 20 Fn.Va [.t 18,.t 19],mV 1 20]) (.seq (.seq (.reg [mV 21 1,mI 22 .lss 21 0]) (.cond (.t 22) (.seq (.reg [mK 4 (-1)]) .ret) .skip)) (.seq (.reg [mV 23 1,mV 4 23]) .ret)))))))
def ka:List RS:=[.t 4]
theorem OF(hw:TC Tryz.prog Θ Γ Fk (aW ka K) ⟨[a0,a1,u,u,u,u,u,u,u,u,u,u,u,u,u,u,u,u,u,u,u,u,u,u],[],h⟩):T Tryz.prog Γ Fn.U7 [a0,a1] h K:=
  TB Tryz.func41 (aG Tryz.f41) hw
def I0:C:=.seq (.reg [mA 2 0,mK 4 0]) (.seq (.reg [mF 5 1 2,mG 6 12 5,mV 7 1,mC 8 Fn.WG [.t 6,.t 7],mV 1 8]) (.seq (.seq (.reg [mV 9 1,mI 10 .lss 9 0]) (.cond (.t 10) (.seq (.reg [mK 4 (-1)]) .ret) .skip)) (.seq (.reg [mV 11 1,mV 4 11]) .ret)))
def vR:List RS:=[.t 4]
theorem LR(hw:TC Tryz.prog Θ Γ I0 (aW vR K) ⟨[a0,a1,u,u,u,u,u,u,u,u,u,u],[],h⟩):T Tryz.prog Γ Fn.U4 [a0,a1] h K:=
  TB Tryz.func42 (aG Tryz.f42) hw
def HM:C:=.seq (.reg [mT 6 false]) (.seq (.reg [mV 7 0,mV 8 1,mB 9 .geq 7 8,mV 10 9,⟨(some 11),(some (3,true)),.mov (.t 0)⟩,⟨(some 12),(some (3,true)),.mov (.t 2)⟩,⟨(some 13),(some (3,true)),.bin .leq (.num) (.t 11) (.t 12)⟩,⟨(some 14),none,.pick (.t 10) (.t 13) (.c (.bool false))⟩,mV 6 14]) .ret)
def C9:List RS:=[.t 6]
theorem QR(hw:TC Tryz.prog Θ Γ HM (aW C9 K) ⟨[a0,a1,a2,u,u,u,u,u,u,u,u,u,u,u,u],[],h⟩):T Tryz.prog Γ Fn.xq [a0,a1,a2] h K:=
  TB Tryz.func43 (aG Tryz.f43) hw
def I5:C:=.seq (.reg [mT 4 false]) (.seq (.seq (.reg [mK 5 0]) (.block 0 (.loop (.seq (.seq (.reg [mV 6 5,mV 7 0,mN 8 7,mB 9 .lss 6 8]) (.cond (.t 9) .skip (.exit 0))) (.seq (.block 1 (.seq (.reg [mV 12 0,mV 13 5,mX 14 2 12 13,mG 15 2 14,mV 16 1,mC 17 Fn.VI [.t 15,.t 16],mU 18 17]) (.cond (.t 18) (.seq (.reg [mT 4 false]) .ret) .skip))) (.reg [mV 10 5,mI 11 .add 10 1,mV 5 11])))))) (.seq (.reg [mT 4 true]) .ret))
def qD:List RS:=[.t 4]
def uB(t0 t1 t5:AV)(loc:List (List AV))(h:AH):St:=⟨[t0,t1,.any,.any,.any,t5,.any,.any,.any,.any,.any,.any,.any,.any,.any,.any,.any,.any,.any],loc,h⟩
theorem Pg(hw:TC Tryz.prog Θ Γ I5 (aW qD K) ⟨[a0,a1,u,u,u,u,u,u,u,u,u,u,u,u,u,u,u,u,u],[],h⟩):T Tryz.prog Γ Fn.VP [a0,a1] h K:=
  TB Tryz.func44 (aG Tryz.f44) hw
def r7:List O:=[mF 7 0 1,mL 8 1 7,mF 9 2 1,mL 10 1 9,mC 11 Fn.OU [.t 10],⟨(some 12),none,.build [.int .i64 0,.nils,.nils,.nils,.nils] [(0,1,.t 8),(2,1,.t 11)]⟩,⟨(some 3),none,.alloc [.int .i64 0,.nils,.nils,.nils,.nils]⟩,mS 5 3 12]
def rN:List (List Nat):=[[],[0],[],[2],[3],[1,4],[],[6,5,4,0,1,2,3,4,5,6]]
theorem di(gl:Gl)(Q:AE→St→Prop)(s:St):aw Tryz.prog Θ Γ gl (.regD r7 rN) Q s=bV Tryz.prog Γ gl [mF 7 0 1,mL 8 1 7,mF 9 2 1,mL 10 1 9,mC 11 Fn.OU [.t 10],⟨(some 12),none,.build [.int .i64 0,.nils,.nils,.nils,.nils] [(0,1,.t 8),(2,1,.t 11)]⟩,⟨(some 3),none,.alloc [.int .i64 0,.nils,.nils,.nils,.nils]⟩,mS 5 3 12] (Q .normal) 8 (.q 0 (.q 1 (.q 2 (.q 3 (.all [(4,.q 5 (.all [(6,.q 7 (.done))])),(6,.all [(4,.q 5 (.q 7 (.done)))])]))))) s:=eX rfl (by kernel_rfl) gl Q s
def rn:List O:=[mF 20 1 3,mL 21 1 20,mF 22 1 1,mL 23 1 22,mV 24 4,mX 25 12 23 24,mG 26 12 25,mC 27 Fn.Lj [.t 26],⟨(some 28),none,.bsl 12 1 [.int .i64 0,.int .i64 0,.nils,.int .i64 0,.int .i64 0,.int .i64 0,.nils,.nils,.int .i64 0,.int .i64 0,.int .i64 0,.int .i64 0] [(0,.t 27)]⟩,⟨(some 29),none,.app 12 144 [.int .i64 0,.int .i64 0,.nils,.int .i64 0,.int .i64 0,.int .i64 0,.nils,.nils,.int .i64 0,.int .i64 0,.int .i64 0,.int .i64 0] false (.t 21) (.t 28)⟩,mF 30 1 3,mS 1 30 29]
def tA:List (List Nat):=[[],[0],[],[2],[],[3,4],[5],[6],[7],[1,8,7],[0,1,2,3,4,5,6,7,8,9],[10,9,9,0,1,2,3,4,5,6,7,8,9]]
theorem dv(gl:Gl)(Q:AE→St→Prop)(s:St):aw Tryz.prog Θ Γ gl (.regD rn tA) Q s=bV Tryz.prog Γ gl [mF 20 1 3,mL 21 1 20,mF 22 1 1,mL 23 1 22,mV 24 4,mX 25 12 23 24,mG 26 12 25,mC 27 Fn.Lj [.t 26],⟨(some 28),none,.bsl 12 1 [.int .i64 0,.int .i64 0,.nils,.int .i64 0,.int .i64 0,.int .i64 0,.nils,.nils,.int .i64 0,.int .i64 0,.int .i64 0,.int .i64 0] [(0,.t 27)]⟩,⟨(some 29),none,.app 12 144 [.int .i64 0,.int .i64 0,.nils,.int .i64 0,.int .i64 0,.int .i64 0,.nils,.nils,.int .i64 0,.int .i64 0,.int .i64 0,.int .i64 0] false (.t 21) (.t 28)⟩,mF 30 1 3,mS 1 30 29] (Q .normal) 12 (.q 0 (.q 1 (.q 2 (.q 3 (.q 4 (.q 5 (.q 6 (.st 7 [20] (.all [(8,.q 9 (.q 10 (.q 11 (.done))))]))))))))) s:=eX rfl (by kernel_rfl) gl Q s
def sk:List O:=[mF 38 3 3,mL 39 1 38,mF 40 3 1,mL 41 1 40,mV 42 5,mX 43 7 41 42,mG 44 7 43,mC 45 Fn.U1 [.t 44],⟨(some 46),none,.bsl 7 1 [.int .i64 0,.bool false,.nils,.int .i64 0,.nils,.int .i64 0,.nils] [(0,.t 45)]⟩,⟨(some 47),none,.app 7 104 [.int .i64 0,.bool false,.nils,.int .i64 0,.nils,.int .i64 0,.nils] false (.t 39) (.t 46)⟩,mF 48 3 3,mS 1 48 47]
def rk:List (List Nat):=[[],[0],[],[2],[],[3,4],[5],[6],[7],[1,8,7],[0,1,2,3,4,5,6,7,8,9],[10,9,9,0,1,2,3,4,5,6,7,8,9]]
theorem dp(gl:Gl)(Q:AE→St→Prop)(s:St):aw Tryz.prog Θ Γ gl (.regD sk rk) Q s=bV Tryz.prog Γ gl [mF 38 3 3,mL 39 1 38,mF 40 3 1,mL 41 1 40,mV 42 5,mX 43 7 41 42,mG 44 7 43,mC 45 Fn.U1 [.t 44],⟨(some 46),none,.bsl 7 1 [.int .i64 0,.bool false,.nils,.int .i64 0,.nils,.int .i64 0,.nils] [(0,.t 45)]⟩,⟨(some 47),none,.app 7 104 [.int .i64 0,.bool false,.nils,.int .i64 0,.nils,.int .i64 0,.nils] false (.t 39) (.t 46)⟩,mF 48 3 3,mS 1 48 47] (Q .normal) 12 (.q 0 (.q 1 (.q 2 (.q 3 (.q 4 (.q 5 (.q 6 (.st 7 [38] (.all [(8,.q 9 (.q 10 (.q 11 (.done))))]))))))))) s:=eX rfl (by kernel_rfl) gl Q s
def tI:List O:=[mF 56 4 3,mL 57 1 56,mF 58 4 1,mL 59 1 58,mV 60 6,mX 61 13 59 60,mF 62 0 61,mL 63 1 62,mF 64 4 1,mL 65 1 64,mV 66 6,mX 67 13 65 66,mF 68 1 67,mG 69 12 68,mC 70 Fn.UX [.t 69],⟨(some 71),none,.build [.int .i64 0,.int .i64 0,.int .i64 0,.int .i64 0,.int .i64 0,.str ⟨#[]⟩,.nils,.int .i64 0,.int .i64 0,.int .i64 0,.int .i64 0,.int .i64 0,.int .i64 0] [(0,1,.t 63),(1,12,.t 70)]⟩,⟨(some 72),none,.bsl 13 1 [.int .i64 0,.int .i64 0,.int .i64 0,.int .i64 0,.int .i64 0,.str ⟨#[]⟩,.nils,.int .i64 0,.int .i64 0,.int .i64 0,.int .i64 0,.int .i64 0,.int .i64 0] [(0,.t 71)]⟩,⟨(some 73),none,.app 13 128 [.int .i64 0,.int .i64 0,.int .i64 0,.int .i64 0,.int .i64 0,.str ⟨#[]⟩,.nils,.int .i64 0,.int .i64 0,.int .i64 0,.int .i64 0,.int .i64 0,.int .i64 0] false (.t 57) (.t 72)⟩,mF 74 4 3,mS 1 74 73]
def rH:List (List Nat):=[[],[0],[],[2],[],[3,4],[5],[6],[],[8],[],[9,10],[11],[12],[13],[7,14],[15],[1,16,14],[0,1,2,3,4,5,6,7,8,9,10,11,12,13,14,15,16,17],[18,17,17,0,1,2,3,4,5,6,7,8,9,10,11,12,13,14,15,16,17]]
theorem dk(gl:Gl)(Q:AE→St→Prop)(s:St):aw Tryz.prog Θ Γ gl (.regD tI rH) Q s=bV Tryz.prog Γ gl [mF 56 4 3,mL 57 1 56,mF 58 4 1,mL 59 1 58,mV 60 6,mX 61 13 59 60,mF 62 0 61,mL 63 1 62,mF 64 4 1,mL 65 1 64,mV 66 6,mX 67 13 65 66,mF 68 1 67,mG 69 12 68,mC 70 Fn.UX [.t 69],⟨(some 71),none,.build [.int .i64 0,.int .i64 0,.int .i64 0,.int .i64 0,.int .i64 0,.str ⟨#[]⟩,.nils,.int .i64 0,.int .i64 0,.int .i64 0,.int .i64 0,.int .i64 0,.int .i64 0] [(0,1,.t 63),(1,12,.t 70)]⟩,⟨(some 72),none,.bsl 13 1 [.int .i64 0,.int .i64 0,.int .i64 0,.int .i64 0,.int .i64 0,.str ⟨#[]⟩,.nils,.int .i64 0,.int .i64 0,.int .i64 0,.int .i64 0,.int .i64 0,.int .i64 0] [(0,.t 71)]⟩,⟨(some 73),none,.app 13 128 [.int .i64 0,.int .i64 0,.int .i64 0,.int .i64 0,.int .i64 0,.str ⟨#[]⟩,.nils,.int .i64 0,.int .i64 0,.int .i64 0,.int .i64 0,.int .i64 0,.int .i64 0] false (.t 57) (.t 72)⟩,mF 74 4 3,mS 1 74 73] (Q .normal) 20 (.q 0 (.q 1 (.q 2 (.q 3 (.q 4 (.q 5 (.q 6 (.q 7 (.q 8 (.q 9 (.q 10 (.q 11 (.q 12 (.q 13 (.st 14 [56,58,62] (.q 15 (.all [(16,.q 17 (.q 18 (.q 19 (.done))))]))))))))))))))))) s:=eX rfl (by kernel_rfl) gl Q s
def IJ:C:=.seq (.reg [mA 1 0,⟨(some 2),none,.alloc [.int .i64 0,.nils,.nils,.nils,.nils]⟩]) (.seq (.regD r7 rN) (.seq (.seq (.reg [mK 4 0]) (.block 0 (.loop (.seq (.seq (.reg [mV 13 4,mF 14 1 1,mL 15 1 14,mN 16 15,mB 17 .lss 13 16]) (.cond (.t 17) .skip (.exit 0))) (.seq (.block 1 (.regD rn tA)) (.reg [mV 18 4,mI 19 .add 18 1,mV 4 19])))))) (.seq (.seq (.reg [mK 5 0]) (.block 2 (.loop (.seq (.seq (.reg [mV 31 5,mF 32 3 1,mL 33 1 32,mN 34 33,mB 35 .lss 31 34]) (.cond (.t 35) .skip (.exit 2))) (.seq (.block 3 (.regD sk rk)) (.reg [mV 36 5,mI 37 .add 36 1,mV 5 37])))))) (.seq (.seq (.reg [mK 6 0]) (.block 4 (.loop (.seq (.seq (.reg [mV 49 6,mF 50 4 1,mL 51 1 50,mN 52 51,mB 53 .lss 49 52]) (.cond (.t 53) .skip (.exit 4))) (.seq (.block 5 (.regD tI rH)) (.reg [mV 54 6,mI 55 .add 54 1,mV 6 55])))))) (.seq (.reg [mG 75 5 3,mS 5 2 75]) .ret)))))
def gJ:List RS:=[.cell 2 5 true]
def uT(t1 t2 t3 t4:AV)(loc:List (List AV))(h:AH):St:=⟨[.any,t1,t2,t3,t4,.any,.any,.any,.any,.any,.any,.any,.any,.any,.any,.any,.any,.any,.any,.any,.any,.any,.any,.any,.any,.any,.any,.any,.any,.any,.any,.any,.any,.any,.any,.any,.any,.any,.any,.any,.any,.any,.any,.any,.any,.any,.any,.any,.any,.any,.any,.any,.any,.any,.any,.any,.any,.any,.any,.any,.any,.any,.any,.any,.any,.any,.any,.any,.any,.any,.any,.any,.any,.any,.any,.any],loc,h⟩
def uH(t1 t2 t3 t5:AV)(loc:List (List AV))(h:AH):St:=⟨[.any,t1,t2,t3,.any,t5,.any,.any,.any,.any,.any,.any,.any,.any,.any,.any,.any,.any,.any,.any,.any,.any,.any,.any,.any,.any,.any,.any,.any,.any,.any,.any,.any,.any,.any,.any,.any,.any,.any,.any,.any,.any,.any,.any,.any,.any,.any,.any,.any,.any,.any,.any,.any,.any,.any,.any,.any,.any,.any,.any,.any,.any,.any,.any,.any,.any,.any,.any,.any,.any,.any,.any,.any,.any,.any,.any],loc,h⟩
def vi(t1 t2 t3 t6:AV)(loc:List (List AV))(h:AH):St:=⟨[.any,t1,t2,t3,.any,.any,t6,.any,.any,.any,.any,.any,.any,.any,.any,.any,.any,.any,.any,.any,.any,.any,.any,.any,.any,.any,.any,.any,.any,.any,.any,.any,.any,.any,.any,.any,.any,.any,.any,.any,.any,.any,.any,.any,.any,.any,.any,.any,.any,.any,.any,.any,.any,.any,.any,.any,.any,.any,.any,.any,.any,.any,.any,.any,.any,.any,.any,.any,.any,.any,.any,.any,.any,.any,.any,.any],loc,h⟩
theorem Ts(hw:TC Tryz.prog Θ Γ IJ (aW gJ K) ⟨[a0,u,u,u,u,u,u,u,u,u,u,u,u,u,u,u,u,u,u,u,u,u,u,u,u,u,u,u,u,u,u,u,u,u,u,u,u,u,u,u,u,u,u,u,u,u,u,u,u,u,u,u,u,u,u,u,u,u,u,u,u,u,u,u,u,u,u,u,u,u,u,u,u,u,u,u],[],h⟩):T Tryz.prog Γ Fn.UZ [a0] h K:=
  TB Tryz.func45 (aG Tryz.f45) hw
def tG:List O:=[mF 14 1 6,mL 15 1 14,mG 16 12 3,mC 17 Fn.Lj [.t 16],⟨(some 18),none,.bsl 12 1 [.int .i64 0,.int .i64 0,.nils,.int .i64 0,.int .i64 0,.int .i64 0,.nils,.nils,.int .i64 0,.int .i64 0,.int .i64 0,.int .i64 0] [(0,.t 17)]⟩,⟨(some 19),none,.app 12 144 [.int .i64 0,.int .i64 0,.nils,.int .i64 0,.int .i64 0,.int .i64 0,.nils,.nils,.int .i64 0,.int .i64 0,.int .i64 0,.int .i64 0] false (.t 15) (.t 18)⟩,mF 20 1 6,mS 1 20 19]
def tJ:List (List Nat):=[[],[0],[],[2],[3],[1,4,3],[0,1,2,3,4,5],[6,5,5,0,1,2,3,4,5]]
theorem lG(gl:Gl)(Q:AE→St→Prop)(s:St):aw Tryz.prog Θ Γ gl (.regD tG tJ) Q s=bV Tryz.prog Γ gl [mF 14 1 6,mL 15 1 14,mG 16 12 3,mC 17 Fn.Lj [.t 16],⟨(some 18),none,.bsl 12 1 [.int .i64 0,.int .i64 0,.nils,.int .i64 0,.int .i64 0,.int .i64 0,.nils,.nils,.int .i64 0,.int .i64 0,.int .i64 0,.int .i64 0] [(0,.t 17)]⟩,⟨(some 19),none,.app 12 144 [.int .i64 0,.int .i64 0,.nils,.int .i64 0,.int .i64 0,.int .i64 0,.nils,.nils,.int .i64 0,.int .i64 0,.int .i64 0,.int .i64 0] false (.t 15) (.t 18)⟩,mF 20 1 6,mS 1 20 19] (Q .normal) 8 (.q 0 (.q 1 (.q 2 (.st 3 [14] (.all [(4,.q 5 (.q 6 (.q 7 (.done))))]))))) s:=eX rfl (by kernel_rfl) gl Q s
def rX:List O:=[mG 21 5 6,mF 22 1 2,mL 23 1 22,mN 24 23,mS 5 4 21,mV 5 24]
def rR:List (List Nat):=[[],[],[1],[2],[0,0],[3,4,0,1,2,3,4]]
theorem l8(gl:Gl)(Q:AE→St→Prop)(s:St):aw Tryz.prog Θ Γ gl (.regD rX rR) Q s=bV Tryz.prog Γ gl [mG 21 5 6,mF 22 1 2,mL 23 1 22,mN 24 23,mS 5 4 21,mV 5 24] (Q .normal) 6 (.q 0 (.q 1 (.q 2 (.q 3 (.st 4 [22] (.q 5 (.done))))))) s:=eX rfl (by kernel_rfl) gl Q s
def JY:C:=.seq (.reg [mA 2 0,mA 3 1,⟨(some 4),none,.alloc [.int .i64 0,.nils,.nils,.nils,.nils]⟩,mK 5 0]) (.seq (.reg [mG 7 5 2,mC 8 Fn.UZ [.t 7],⟨(some 6),none,.alloc [.int .i64 0,.nils,.nils,.nils,.nils]⟩,mS 5 6 8]) (.seq (.seq (.reg [mF 9 1 2,mL 10 1 9,mN 11 10,mI 12 .geq 11 200]) (.cond (.t 12) (.seq (.reg [mG 13 5 6,mS 5 4 13,mK 5 (-1)]) .ret) .skip)) (.seq (.regD tG tJ) (.seq (.regD rX rR) .ret))))
def wK:List RS:=[.cell 4 5 true,.t 5]
theorem OH(hw:TC Tryz.prog Θ Γ JY (aW wK K) ⟨[a0,a1,u,u,u,u,u,u,u,u,u,u,u,u,u,u,u,u,u,u,u,u,u,u,u],[],h⟩):T Tryz.prog Γ Fn.Vj [a0,a1] h K:=
  TB Tryz.func46 (aG Tryz.f46) hw
def E5:C:=.seq (.reg [⟨(some 4),none,.alloc [.int .i64 0,.int .i64 0,.nils,.int .i64 0,.int .i64 0,.int .i64 0,.nils,.nils,.int .i64 0,.int .i64 0,.int .i64 0,.int .i64 0]⟩]) (.seq (.reg [mV 5 0,⟨(some 6),none,.bsl 2 0 [.int .i64 0,.int .i64 0] []⟩,mV 7 1,⟨(some 8),none,.app 2 16 [.int .i64 0,.int .i64 0] false (.t 6) (.t 7)⟩,⟨(some 9),none,.build [.int .i64 0,.int .i64 0,.nils,.int .i64 0,.int .i64 0,.int .i64 0,.nils,.nils,.int .i64 0,.int .i64 0,.int .i64 0,.int .i64 0] [(0,1,.c (.int .i64 1)),(1,1,.t 5),(2,1,.t 8)]⟩,mS 12 4 9]) .ret)
def G9:List RS:=[.cell 4 12 true]
theorem PA(hw:TC Tryz.prog Θ Γ E5 (aW G9 K) ⟨[a0,a1,u,u,u,u,u,u,u,u],[],h⟩):T Tryz.prog Γ Fn.U0 [a0,a1] h K:=
  TB Tryz.func47 (aG Tryz.f47) hw
def Jf:C:=.seq (.reg [⟨(some 2),none,.mov (.c (.nils))⟩,mT 3 false]) (.seq (.seq (.reg [mV 9 0,⟨(some 10),none,.len true (.t 9)⟩,mI 11 .gtr 10 4000]) (.cond (.t 11) (.seq (.reg [⟨(some 12),none,.bsl 2 0 [.str ⟨#[]⟩,.nils] []⟩,mV 2 12,mT 3 false]) .ret) .skip)) (.seq (.reg [mV 13 0,mC 14 Fn.UE [.t 13,.c (.int .u8 10)],mV 4 14]) (.seq (.reg [⟨(some 15),none,.bsl 2 0 [.str ⟨#[]⟩,.nils] []⟩,mV 5 15]) (.seq (.seq (.reg [mK 6 0]) (.block 0 (.loop (.seq (.seq (.reg [mV 16 6,mV 17 4,mN 18 17,mI 19 .sub 18 1,mB 20 .lss 16 19]) (.cond (.t 20) .skip (.exit 0))) (.seq (.block 1 (.seq (.reg [mV 24 5,mV 25 4,mV 26 6,mX 27 1 25 26,mL 28 1 27,mC 29 Fn.Lb [.t 24,.t 28],mV 23 29,⟨(some 30),none,.extr (.t 23) 0⟩,⟨(some 31),none,.extr (.t 23) 1⟩,mV 7 30,mV 8 31]) (.seq (.seq (.reg [mV 32 8,mU 33 32]) (.cond (.t 33) (.seq (.reg [⟨(some 34),none,.bsl 2 0 [.str ⟨#[]⟩,.nils] []⟩,mV 2 34,mT 3 false]) .ret) .skip)) (.reg [mV 35 7,mV 5 35])))) (.reg [mV 21 6,mI 22 .add 21 1,mV 6 22])))))) (.seq (.seq (.reg [mV 36 5,mC 37 Fn.Vv [.t 36],mU 38 37,mV 39 38,⟨(some 40),(some (3,false)),.mov (.t 5)⟩,⟨(some 41),(some (3,false)),.call (.c (.fn Fn.VR [] [])) [.t 40]⟩,⟨(some 42),(some (3,false)),.mov (.t 0)⟩,⟨(some 43),(some (3,false)),.bin .neq (.num) (.t 41) (.t 42)⟩,⟨(some 44),none,.pick (.t 39) (.c (.bool true)) (.t 43)⟩]) (.cond (.t 44) (.seq (.reg [⟨(some 45),none,.bsl 2 0 [.str ⟨#[]⟩,.nils] []⟩,mV 2 45,mT 3 false]) .ret) .skip)) (.seq (.reg [mV 46 5,mV 2 46,mT 3 true]) .ret))))))
def lB:List RS:=[.t 2,.t 3]
def vj(t0 t4 t5 t6:AV)(loc:List (List AV))(h:AH):St:=⟨[t0,.any,.any,.any,t4,t5,t6,.any,.any,.any,.any,.any,.any,.any,.any,.any,.any,.any,.any,.any,.any,.any,.any,.any,.any,.any,.any,.any,.any,.any,.any,.any,.any,.any,.any,.any,.any,.any,.any,.any,.any,.any,.any,.any,.any,.any,.any],loc,h⟩
theorem Q1(hw:TC Tryz.prog Θ Γ Jf (aW lB K) ⟨[a0,u,u,u,u,u,u,u,u,u,u,u,u,u,u,u,u,u,u,u,u,u,u,u,u,u,u,u,u,u,u,u,u,u,u,u,u,u,u,u,u,u,u,u,u,u,u],[],h⟩):T Tryz.prog Γ Fn.WQ [a0] h K:=
  TB Tryz.func48 (aG Tryz.f48) hw
def G4:C:=.seq (.reg [⟨(some 0),none,.mov (.c (.str ⟨#[]⟩))⟩]) (.seq (.reg [⟨(some 0),none,.mov (.c (.str ⟨#[115,99,114,105,112,116,32,99,101,108,108,10,109,101,116,104,111,100,32,103,101,116,10,115,108,111,116,32,48,32,48,10,114,101,116,117,114,110,32,48,10,109,101,116,104,111,100,32,115,101,116,10,97,114,103,32,48,32,48,10,115,101,116,32,48,32,48,10,114,101,116,117,114,110,32,48,10,109,101,116,104,111,100,32,97,100,100,10,115,108,111,116,32,48,32,48,10,97,114,103,32,49,32,48,10,97,100,100,32,48,32,48,32,49,10,115,101,116,32,48,32,48,10,114,101,116,117,114,110,32,48,10,115,99,114,105,112,116,32,103,97,116,101,10,109,101,116,104,111,100,32,103,101,116,10,115,108,111,116,32,48,32,48,10,115,101,110,100,32,49,32,48,32,103,101,116,10,114,101,116,117,114,110,32,49,10,109,101,116,104,111,100,32,97,100,100,10,115,108,111,116,32,48,32,48,10,97,114,103,32,49,32,48,10,115,101,110,100,32,50,32,48,32,97,100,100,32,49,10,114,101,116,117,114,110,32,50,10,109,101,116,104,111,100,32,99,108,111,115,101,10,99,111,110,115,116,32,48,32,48,10,115,101,116,32,48,32,48,10,114,101,116,117,114,110,32,48,10,115,99,114,105,112,116,32,109,101,116,101,114,10,109,101,116,104,111,100,32,103,101,116,10,115,108,111,116,32,49,32,48,10,114,101,116,117,114,110,32,49,10,109,101,116,104,111,100,32,97,100,100,10,115,108,111,116,32,49,32,49,10,99,111,110,115,116,32,50,32,49,10,97,100,100,32,49,32,49,32,50,10,115,101,116,32,49,32,49,10,115,108,111,116,32,48,32,48,10,97,114,103,32,51,32,48,10,115,101,110,100,32,52,32,48,32,97,100,100,32,51,10,114,101,116,117,114,110,32,52,10,109,101,116,104,111,100,32,99,111,117,110,116,10,115,108,111,116,32,48,32,49,10,114,101,116,117,114,110,32,48,10,115,99,114,105,112,116,32,109,97,107,101,114,10,109,101,116,104,111,100,32,109,97,107,101,10,97,114,103,32,48,32,48,10,110,101,119,32,49,32,103,97,116,101,32,48,10,114,101,116,117,114,110,32,49,10]⟩))⟩]) .ret)
def F8:List RS:=[.t 0]
theorem N6(hw:TC Tryz.prog Θ Γ G4 (aW F8 K) ⟨[u],[],h⟩):T Tryz.prog Γ Fn.Vm [] h K:=
  TB Tryz.func49 (aG Tryz.f49) hw
def JZ:C:=.seq (.reg [mA 1 0,⟨(some 2),none,.alloc [.int .i64 0,.int .i64 0,.nils,.int .i64 0,.int .i64 0,.int .i64 0,.nils,.nils,.int .i64 0,.int .i64 0,.int .i64 0,.int .i64 0]⟩]) (.seq (.reg [⟨(some 3),none,.alloc [.int .i64 0,.int .i64 0,.nils,.int .i64 0,.int .i64 0,.int .i64 0,.nils,.nils,.int .i64 0,.int .i64 0,.int .i64 0,.int .i64 0]⟩]) (.seq (.reg [mF 4 0 1,mL 5 1 4,mF 6 0 3,mS 1 6 5]) (.seq (.reg [mF 7 1 1,mL 8 1 7,mF 9 1 3,mS 1 9 8]) (.seq (.reg [mF 10 2 1,mL 11 1 10,mC 12 Fn.U9 [.t 11],mF 13 2 3,mS 1 13 12]) (.seq (.reg [mF 14 3 1,mL 15 1 14,mF 16 3 3,mS 1 16 15]) (.seq (.reg [mF 17 4 1,mG 18 2 17,mC 19 Fn.LH [.t 18],mF 20 4 3,mS 2 20 19]) (.seq (.reg [mF 21 6 1,mL 22 1 21,mC 23 Fn.U3 [.t 22],mF 24 6 3,mS 1 24 23]) (.seq (.reg [mF 25 7 1,mL 26 1 25,mC 27 Fn.W6 [.t 26],mF 28 7 3,mS 1 28 27]) (.seq (.reg [mF 29 8 1,mL 30 1 29,mF 31 8 3,mS 1 31 30]) (.seq (.reg [mF 32 9 1,mL 33 1 32,mF 34 9 3,mS 1 34 33]) (.seq (.reg [mF 35 10 1,mL 36 1 35,mF 37 10 3,mS 1 37 36]) (.seq (.reg [mF 38 11 1,mL 39 1 38,mF 40 11 3,mS 1 40 39]) (.seq (.reg [mG 41 12 3,mS 12 2 41]) .ret)))))))))))))
def rj:List RS:=[.cell 2 12 true]
theorem Tp(hw:TC Tryz.prog Θ Γ JZ (aW rj K) ⟨[a0,u,u,u,u,u,u,u,u,u,u,u,u,u,u,u,u,u,u,u,u,u,u,u,u,u,u,u,u,u,u,u,u,u,u,u,u,u,u,u,u,u],[],h⟩):T Tryz.prog Γ Fn.UK [a0] h K:=
  TB Tryz.func50 (aG Tryz.f50) hw
def I1:C:=.seq (.reg [mA 1 0,⟨(some 2),none,.alloc [.int .i64 0,.str ⟨#[]⟩,.nils,.int .i64 0,.int .i64 0,.int .i64 0,.int .i64 0]⟩]) (.seq (.reg [⟨(some 3),none,.alloc [.int .i64 0,.str ⟨#[]⟩,.nils,.int .i64 0,.int .i64 0,.int .i64 0,.int .i64 0]⟩]) (.seq (.reg [mF 4 0 1,mL 5 1 4,mF 6 0 3,mS 1 6 5]) (.seq (.reg [mF 7 1 1,mL 8 1 7,mF 9 1 3,mS 1 9 8]) (.seq (.reg [mF 10 2 1,mL 11 1 10,mC 12 Fn.U9 [.t 11],mF 13 2 3,mS 1 13 12]) (.seq (.reg [mF 14 3 1,mL 15 1 14,mF 16 3 3,mS 1 16 15]) (.seq (.reg [mF 17 4 1,mG 18 3 17,mC 19 Fn.Uy [.t 18],mF 20 4 3,mS 3 20 19]) (.seq (.reg [mG 21 7 3,mS 7 2 21]) .ret)))))))
def yz:List RS:=[.cell 2 7 true]
theorem Ov(hw:TC Tryz.prog Θ Γ I1 (aW yz K) ⟨[a0,u,u,u,u,u,u,u,u,u,u,u,u,u,u,u,u,u,u,u,u,u],[],h⟩):T Tryz.prog Γ Fn.UT [a0] h K:=
  TB Tryz.func51 (aG Tryz.f51) hw
def HJ:C:=.seq (.reg [mA 1 0,⟨(some 2),none,.alloc [.int .i64 0,.bool false,.nils,.int .i64 0,.nils,.int .i64 0,.nils]⟩]) (.seq (.reg [⟨(some 3),none,.alloc [.int .i64 0,.bool false,.nils,.int .i64 0,.nils,.int .i64 0,.nils]⟩]) (.seq (.reg [mF 4 0 1,mL 5 1 4,mF 6 0 3,mS 1 6 5]) (.seq (.reg [mF 7 1 1,mL 8 1 7,mF 9 1 3,mS 1 9 8]) (.seq (.reg [mF 10 2 1,mL 11 1 10,mC 12 Fn.Ww [.t 11],mF 13 2 3,mS 1 13 12]) (.seq (.reg [mF 14 3 1,mL 15 1 14,mF 16 3 3,mS 1 16 15]) (.seq (.reg [mF 17 4 1,mL 18 1 17,mC 19 Fn.Uz [.t 18],mF 20 4 3,mS 1 20 19]) (.seq (.reg [mF 21 5 1,mL 22 1 21,mF 23 5 3,mS 1 23 22]) (.seq (.reg [mF 24 6 1,mL 25 1 24,mC 26 Fn.Uz [.t 25],mF 27 6 3,mS 1 27 26]) (.seq (.reg [mG 28 7 3,mS 7 2 28]) .ret)))))))))
def vL:List RS:=[.cell 2 7 true]
theorem MB(hw:TC Tryz.prog Θ Γ HJ (aW vL K) ⟨[a0,u,u,u,u,u,u,u,u,u,u,u,u,u,u,u,u,u,u,u,u,u,u,u,u,u,u,u,u],[],h⟩):T Tryz.prog Γ Fn.Vi [a0] h K:=
  TB Tryz.func52 (aG Tryz.f52) hw
def FF:C:=.seq (.reg [mA 1 0,⟨(some 2),none,.alloc [.int .i64 0,.int .i64 0,.int .i64 0,.int .i64 0,.int .i64 0,.str ⟨#[]⟩,.nils,.int .i64 0,.int .i64 0,.int .i64 0,.int .i64 0,.int .i64 0,.int .i64 0]⟩]) (.seq (.reg [⟨(some 3),none,.alloc [.int .i64 0,.int .i64 0,.int .i64 0,.int .i64 0,.int .i64 0,.str ⟨#[]⟩,.nils,.int .i64 0,.int .i64 0,.int .i64 0,.int .i64 0,.int .i64 0,.int .i64 0]⟩]) (.seq (.reg [mF 4 0 1,mL 5 1 4,mF 6 0 3,mS 1 6 5]) (.seq (.reg [mF 7 1 1,mG 8 12 7,mC 9 Fn.WJ [.t 8],mF 10 1 3,mS 12 10 9]) (.seq (.reg [mG 11 13 3,mS 13 2 11]) .ret))))
def Bg:List RS:=[.cell 2 13 true]
theorem Tm(hw:TC Tryz.prog Θ Γ FF (aW Bg K) ⟨[a0,u,u,u,u,u,u,u,u,u,u,u],[],h⟩):T Tryz.prog Γ Fn.Vd [a0] h K:=
  TB Tryz.func53 (aG Tryz.f53) hw
def tF:List O:=[mF 10 0 1,mL 11 1 10,mF 12 2 1,mL 13 1 12,mC 14 Fn.Li [.t 13],⟨(some 15),none,.build [.int .i64 0,.nils,.nils,.nils,.nils] [(0,1,.t 11),(2,1,.t 14)]⟩,⟨(some 3),none,.alloc [.int .i64 0,.nils,.nils,.nils,.nils]⟩,mS 5 3 15]
def sg:List (List Nat):=[[],[0],[],[2],[3],[1,4],[],[6,5,4,0,1,2,3,4,5,6]]
theorem dn(gl:Gl)(Q:AE→St→Prop)(s:St):aw Tryz.prog Θ Γ gl (.regD tF sg) Q s=bV Tryz.prog Γ gl [mF 10 0 1,mL 11 1 10,mF 12 2 1,mL 13 1 12,mC 14 Fn.Li [.t 13],⟨(some 15),none,.build [.int .i64 0,.nils,.nils,.nils,.nils] [(0,1,.t 11),(2,1,.t 14)]⟩,⟨(some 3),none,.alloc [.int .i64 0,.nils,.nils,.nils,.nils]⟩,mS 5 3 15] (Q .normal) 8 (.q 0 (.q 1 (.q 2 (.q 3 (.all [(4,.q 5 (.all [(6,.q 7 (.done))])),(6,.all [(4,.q 5 (.q 7 (.done)))])]))))) s:=eX rfl (by kernel_rfl) gl Q s
def tR:List O:=[mF 23 1 3,mL 24 1 23,mG 25 12 5,mC 26 Fn.Vn [.t 25],⟨(some 27),none,.bsl 12 1 [.int .i64 0,.int .i64 0,.nils,.int .i64 0,.int .i64 0,.int .i64 0,.nils,.nils,.int .i64 0,.int .i64 0,.int .i64 0,.int .i64 0] [(0,.t 26)]⟩,⟨(some 28),none,.app 12 144 [.int .i64 0,.int .i64 0,.nils,.int .i64 0,.int .i64 0,.int .i64 0,.nils,.nils,.int .i64 0,.int .i64 0,.int .i64 0,.int .i64 0] false (.t 24) (.t 27)⟩,mF 29 1 3,mS 1 29 28]
def sC:List (List Nat):=[[],[0],[],[2],[3],[1,4,3],[0,1,2,3,4,5],[6,5,5,0,1,2,3,4,5]]
theorem dw(gl:Gl)(Q:AE→St→Prop)(s:St):aw Tryz.prog Θ Γ gl (.regD tR sC) Q s=bV Tryz.prog Γ gl [mF 23 1 3,mL 24 1 23,mG 25 12 5,mC 26 Fn.Vn [.t 25],⟨(some 27),none,.bsl 12 1 [.int .i64 0,.int .i64 0,.nils,.int .i64 0,.int .i64 0,.int .i64 0,.nils,.nils,.int .i64 0,.int .i64 0,.int .i64 0,.int .i64 0] [(0,.t 26)]⟩,⟨(some 28),none,.app 12 144 [.int .i64 0,.int .i64 0,.nils,.int .i64 0,.int .i64 0,.int .i64 0,.nils,.nils,.int .i64 0,.int .i64 0,.int .i64 0,.int .i64 0] false (.t 24) (.t 27)⟩,mF 29 1 3,mS 1 29 28] (Q .normal) 8 (.q 0 (.q 1 (.q 2 (.st 3 [23] (.all [(4,.q 5 (.q 6 (.q 7 (.done))))]))))) s:=eX rfl (by kernel_rfl) gl Q s
def sB:List O:=[mF 38 3 3,mL 39 1 38,mG 40 7 7,mC 41 Fn.Vh [.t 40],⟨(some 42),none,.bsl 7 1 [.int .i64 0,.bool false,.nils,.int .i64 0,.nils,.int .i64 0,.nils] [(0,.t 41)]⟩,⟨(some 43),none,.app 7 104 [.int .i64 0,.bool false,.nils,.int .i64 0,.nils,.int .i64 0,.nils] false (.t 39) (.t 42)⟩,mF 44 3 3,mS 1 44 43]
def qU:List (List Nat):=[[],[0],[],[2],[3],[1,4,3],[0,1,2,3,4,5],[6,5,5,0,1,2,3,4,5]]
theorem du(gl:Gl)(Q:AE→St→Prop)(s:St):aw Tryz.prog Θ Γ gl (.regD sB qU) Q s=bV Tryz.prog Γ gl [mF 38 3 3,mL 39 1 38,mG 40 7 7,mC 41 Fn.Vh [.t 40],⟨(some 42),none,.bsl 7 1 [.int .i64 0,.bool false,.nils,.int .i64 0,.nils,.int .i64 0,.nils] [(0,.t 41)]⟩,⟨(some 43),none,.app 7 104 [.int .i64 0,.bool false,.nils,.int .i64 0,.nils,.int .i64 0,.nils] false (.t 39) (.t 42)⟩,mF 44 3 3,mS 1 44 43] (Q .normal) 8 (.q 0 (.q 1 (.q 2 (.st 3 [38] (.all [(4,.q 5 (.q 6 (.q 7 (.done))))]))))) s:=eX rfl (by kernel_rfl) gl Q s
def sy:List O:=[mF 53 4 3,mL 54 1 53,mF 55 0 9,mL 56 1 55,mF 57 1 9,mG 58 12 57,mC 59 Fn.Ve [.t 58],⟨(some 60),none,.build [.int .i64 0,.int .i64 0,.int .i64 0,.int .i64 0,.int .i64 0,.str ⟨#[]⟩,.nils,.int .i64 0,.int .i64 0,.int .i64 0,.int .i64 0,.int .i64 0,.int .i64 0] [(0,1,.t 56),(1,12,.t 59)]⟩,⟨(some 61),none,.bsl 13 1 [.int .i64 0,.int .i64 0,.int .i64 0,.int .i64 0,.int .i64 0,.str ⟨#[]⟩,.nils,.int .i64 0,.int .i64 0,.int .i64 0,.int .i64 0,.int .i64 0,.int .i64 0] [(0,.t 60)]⟩,⟨(some 62),none,.app 13 128 [.int .i64 0,.int .i64 0,.int .i64 0,.int .i64 0,.int .i64 0,.str ⟨#[]⟩,.nils,.int .i64 0,.int .i64 0,.int .i64 0,.int .i64 0,.int .i64 0,.int .i64 0] false (.t 54) (.t 61)⟩,mF 63 4 3,mS 1 63 62]
def tr:List (List Nat):=[[],[0],[],[2],[],[4],[5],[3,6],[7],[1,8,6],[0,1,2,3,4,5,6,7,8,9],[10,9,9,0,1,2,3,4,5,6,7,8,9]]
theorem dr(gl:Gl)(Q:AE→St→Prop)(s:St):aw Tryz.prog Θ Γ gl (.regD sy tr) Q s=bV Tryz.prog Γ gl [mF 53 4 3,mL 54 1 53,mF 55 0 9,mL 56 1 55,mF 57 1 9,mG 58 12 57,mC 59 Fn.Ve [.t 58],⟨(some 60),none,.build [.int .i64 0,.int .i64 0,.int .i64 0,.int .i64 0,.int .i64 0,.str ⟨#[]⟩,.nils,.int .i64 0,.int .i64 0,.int .i64 0,.int .i64 0,.int .i64 0,.int .i64 0] [(0,1,.t 56),(1,12,.t 59)]⟩,⟨(some 61),none,.bsl 13 1 [.int .i64 0,.int .i64 0,.int .i64 0,.int .i64 0,.int .i64 0,.str ⟨#[]⟩,.nils,.int .i64 0,.int .i64 0,.int .i64 0,.int .i64 0,.int .i64 0,.int .i64 0] [(0,.t 60)]⟩,⟨(some 62),none,.app 13 128 [.int .i64 0,.int .i64 0,.int .i64 0,.int .i64 0,.int .i64 0,.str ⟨#[]⟩,.nils,.int .i64 0,.int .i64 0,.int .i64 0,.int .i64 0,.int .i64 0,.int .i64 0] false (.t 54) (.t 61)⟩,mF 63 4 3,mS 1 63 62] (Q .normal) 12 (.q 0 (.q 1 (.q 2 (.q 3 (.q 4 (.q 5 (.st 6 [53,55] (.q 7 (.all [(8,.q 9 (.q 10 (.q 11 (.done))))]))))))))) s:=eX rfl (by kernel_rfl) gl Q s
def HS:C:=.seq (.reg [mA 1 0,⟨(some 2),none,.alloc [.int .i64 0,.nils,.nils,.nils,.nils]⟩]) (.seq (.regD tF sg) (.seq (.seq (.reg [mF 16 1 1,mL 17 1 16,mN 18 17,mK 19 0]) (.block 0 (.loop (.seq (.reg [mB 20 .lss 19 18]) (.seq (.cond (.t 20) .skip (.exit 0)) (.seq (.block 1 (.seq (.reg [mX 21 12 17 19,mG 22 12 21,⟨(some 5),none,.alloc [.int .i64 0,.int .i64 0,.nils,.int .i64 0,.int .i64 0,.int .i64 0,.nils,.nils,.int .i64 0,.int .i64 0,.int .i64 0,.int .i64 0]⟩,mS 12 5 22]) (.regD tR sC))) (.reg [mI 30 .add 19 1,mV 19 30]))))))) (.seq (.seq (.reg [mF 31 3 1,mL 32 1 31,mN 33 32,mK 34 0]) (.block 2 (.loop (.seq (.reg [mB 35 .lss 34 33]) (.seq (.cond (.t 35) .skip (.exit 2)) (.seq (.block 3 (.seq (.reg [mX 36 7 32 34,mG 37 7 36,⟨(some 7),none,.alloc [.int .i64 0,.bool false,.nils,.int .i64 0,.nils,.int .i64 0,.nils]⟩,mS 7 7 37]) (.regD sB qU))) (.reg [mI 45 .add 34 1,mV 34 45]))))))) (.seq (.seq (.reg [mF 46 4 1,mL 47 1 46,mN 48 47,mK 49 0]) (.block 4 (.loop (.seq (.reg [mB 50 .lss 49 48]) (.seq (.cond (.t 50) .skip (.exit 4)) (.seq (.block 5 (.seq (.reg [mX 51 13 47 49,mG 52 13 51,⟨(some 9),none,.alloc [.int .i64 0,.int .i64 0,.int .i64 0,.int .i64 0,.int .i64 0,.str ⟨#[]⟩,.nils,.int .i64 0,.int .i64 0,.int .i64 0,.int .i64 0,.int .i64 0,.int .i64 0]⟩,mS 13 9 52]) (.regD sy tr))) (.reg [mI 64 .add 49 1,mV 49 64]))))))) (.seq (.reg [mG 65 5 3,mS 5 2 65]) .ret)))))
def gL:List RS:=[.cell 2 5 true]
def vk(t1 t2 t3 t17 t18 t19:AV)(loc:List (List AV))(h:AH):St:=⟨[.any,t1,t2,t3,.any,.any,.any,.any,.any,.any,.any,.any,.any,.any,.any,.any,.any,t17,t18,t19,.any,.any,.any,.any,.any,.any,.any,.any,.any,.any,.any,.any,.any,.any,.any,.any,.any,.any,.any,.any,.any,.any,.any,.any,.any,.any,.any,.any,.any,.any,.any,.any,.any,.any,.any,.any,.any,.any,.any,.any,.any,.any,.any,.any,.any,.any],loc,h⟩
def ui(t1 t2 t3 t32 t33 t34:AV)(loc:List (List AV))(h:AH):St:=⟨[.any,t1,t2,t3,.any,.any,.any,.any,.any,.any,.any,.any,.any,.any,.any,.any,.any,.any,.any,.any,.any,.any,.any,.any,.any,.any,.any,.any,.any,.any,.any,.any,t32,t33,t34,.any,.any,.any,.any,.any,.any,.any,.any,.any,.any,.any,.any,.any,.any,.any,.any,.any,.any,.any,.any,.any,.any,.any,.any,.any,.any,.any,.any,.any,.any,.any],loc,h⟩
def uo(t2 t3 t47 t48 t49:AV)(loc:List (List AV))(h:AH):St:=⟨[.any,.any,t2,t3,.any,.any,.any,.any,.any,.any,.any,.any,.any,.any,.any,.any,.any,.any,.any,.any,.any,.any,.any,.any,.any,.any,.any,.any,.any,.any,.any,.any,.any,.any,.any,.any,.any,.any,.any,.any,.any,.any,.any,.any,.any,.any,.any,t47,t48,t49,.any,.any,.any,.any,.any,.any,.any,.any,.any,.any,.any,.any,.any,.any,.any,.any],loc,h⟩
theorem On(hw:TC Tryz.prog Θ Γ HS (aW gL K) ⟨[a0,u,u,u,u,u,u,u,u,u,u,u,u,u,u,u,u,u,u,u,u,u,u,u,u,u,u,u,u,u,u,u,u,u,u,u,u,u,u,u,u,u,u,u,u,u,u,u,u,u,u,u,u,u,u,u,u,u,u,u,u,u,u,u,u,u],[],h⟩):T Tryz.prog Γ Fn.WA [a0] h K:=
  TB Tryz.func54 (aG Tryz.f54) hw
def JP:C:=.seq (.reg [mT 6 false]) (.seq (.reg [mV 7 1,mV 8 0,mB 9 .leq 7 8,mV 10 9,⟨(some 11),(some (3,true)),.mov (.t 0)⟩,⟨(some 12),(some (3,true)),.mov (.t 2)⟩,⟨(some 13),(some (3,true)),.bin .leq (.num) (.t 11) (.t 12)⟩,⟨(some 14),none,.pick (.t 10) (.t 13) (.c (.bool false))⟩,mV 6 14]) .ret)
def Db:List RS:=[.t 6]
theorem Mi(hw:TC Tryz.prog Θ Γ JP (aW Db K) ⟨[a0,a1,a2,u,u,u,u,u,u,u,u,u,u,u,u],[],h⟩):T Tryz.prog Γ Fn.zt [a0,a1,a2] h K:=
  TB Tryz.func55 (aG Tryz.f55) hw
def IV:C:=.seq (.reg [mA 3 1,mT 4 false]) (.seq (.reg [mV 5 0,⟨(some 6),none,.mkf Fn.VB [] [.t 3]⟩,mC 7 Fn.WM [.t 5,.t 6],mU 8 7,mV 4 8]) .ret)
def CX:List RS:=[.t 4]
theorem Sh(hw:TC Tryz.prog Θ Γ IV (aW CX K) ⟨[a0,a1,u,u,u,u,u,u,u],[],h⟩):T Tryz.prog Γ Fn.UD [a0,a1] h K:=
  TB Tryz.func56 (aG Tryz.f56) hw
def rM:List O:=[mV 11 0,mV 12 0,⟨(some 13),none,.nilchk (.t 12)⟩,mF 14 1 13,mL 15 1 14,mG 16 12 3,⟨(some 17),none,.bsl 12 1 [.int .i64 0,.int .i64 0,.nils,.int .i64 0,.int .i64 0,.int .i64 0,.nils,.nils,.int .i64 0,.int .i64 0,.int .i64 0,.int .i64 0] [(0,.t 16)]⟩,⟨(some 18),none,.app 12 144 [.int .i64 0,.int .i64 0,.nils,.int .i64 0,.int .i64 0,.int .i64 0,.nils,.nils,.int .i64 0,.int .i64 0,.int .i64 0,.int .i64 0] false (.t 15) (.t 17)⟩,⟨(some 19),none,.nilchk (.t 11)⟩,mF 20 1 19,mS 1 20 18]
def tz:List (List Nat):=[[],[],[1],[2],[3],[],[5],[4,6],[0,0,1,2,3,4,5,6,7],[8,0,1,2,3,4,5,6,7],[9,7,7,0,1,2,3,4,5,6,7]]
theorem qp(gl:Gl)(Q:AE→St→Prop)(s:St):aw Tryz.prog Θ Γ gl (.regD rM tz) Q s=bV Tryz.prog Γ gl [mV 11 0,mV 12 0,⟨(some 13),none,.nilchk (.t 12)⟩,mF 14 1 13,mL 15 1 14,mG 16 12 3,⟨(some 17),none,.bsl 12 1 [.int .i64 0,.int .i64 0,.nils,.int .i64 0,.int .i64 0,.int .i64 0,.nils,.nils,.int .i64 0,.int .i64 0,.int .i64 0,.int .i64 0] [(0,.t 16)]⟩,⟨(some 18),none,.app 12 144 [.int .i64 0,.int .i64 0,.nils,.int .i64 0,.int .i64 0,.int .i64 0,.nils,.nils,.int .i64 0,.int .i64 0,.int .i64 0,.int .i64 0] false (.t 15) (.t 17)⟩,⟨(some 19),none,.nilchk (.t 11)⟩,mF 20 1 19,mS 1 20 18] (Q .normal) 11 (.q 0 (.q 1 (.q 2 (.q 3 (.q 4 (.q 5 (.all [(6,.q 7 (.q 8 (.q 9 (.q 10 (.done)))))]))))))) s:=eX rfl (by kernel_rfl) gl Q s
def Jo:C:=.seq (.reg [mA 3 1,mK 4 0]) (.seq (.seq (.reg [mV 5 0,⟨(some 6),none,.nilchk (.t 5)⟩,mF 7 1 6,mL 8 1 7,mN 9 8,mI 10 .geq 9 200]) (.cond (.t 10) (.seq (.reg [mK 4 (-1)]) .ret) .skip)) (.seq (.regD rM tz) (.seq (.reg [mV 21 0,⟨(some 22),none,.nilchk (.t 21)⟩,mF 23 1 22,mL 24 1 23,mN 25 24,mI 26 .sub 25 1,mV 4 26]) .ret)))
def zg:List RS:=[.t 4]
theorem OP(hw:TC Tryz.prog Θ Γ Jo (aW zg K) ⟨[a0,a1,u,u,u,u,u,u,u,u,u,u,u,u,u,u,u,u,u,u,u,u,u,u,u,u,u],[],h⟩):T Tryz.prog Γ Fn.Xi [a0,a1] h K:=
  TB Tryz.func57 (aG Tryz.f57) hw
def ET:C:=.seq (.reg [⟨(some 4),none,.alloc [.int .i64 0,.int .i64 0,.nils,.int .i64 0,.int .i64 0,.int .i64 0,.nils,.nils,.int .i64 0,.int .i64 0,.int .i64 0,.int .i64 0]⟩]) (.seq (.reg [mV 5 0,mV 6 1,mC 7 Fn.K8 [.t 6],⟨(some 8),none,.build [.int .i64 0,.int .i64 0,.nils,.int .i64 0,.int .i64 0,.int .i64 0,.nils,.nils,.int .i64 0,.int .i64 0,.int .i64 0,.int .i64 0] [(0,1,.c (.int .i64 1)),(1,1,.t 5),(2,1,.t 7)]⟩,mS 12 4 8]) .ret)
def Cf:List RS:=[.cell 4 12 true]
theorem Ug(hw:TC Tryz.prog Θ Γ ET (aW Cf K) ⟨[a0,a1,u,u,u,u,u,u,u],[],h⟩):T Tryz.prog Γ Fn.WC [a0,a1] h K:=
  TB Tryz.func58 (aG Tryz.f58) hw
def MS:C:=.seq (.reg [mK 4 0]) (.seq (.seq (.reg [mV 6 0,mN 7 6,mK 8 0]) (.block 0 (.loop (.seq (.reg [mB 9 .lss 8 7]) (.seq (.cond (.t 9) .skip (.exit 0)) (.seq (.block 1 (.seq (.reg [mV 10 8,mV 5 10]) (.seq (.reg [mV 11 1,mV 12 0,mV 13 5,mX 14 2 12 13,mG 15 2 14,⟨(some 16),none,.call (.t 11) [.t 15]⟩]) (.cond (.t 16) (.seq (.reg [mV 17 5,mV 4 17]) .ret) .skip)))) (.reg [mI 18 .add 8 1,mV 8 18]))))))) (.seq (.reg [mK 4 (-1)]) .ret))
def Sa:List RS:=[.t 4]
def Wv(t0 t1 t7 t8:AV)(loc:List (List AV))(h:AH):St:=⟨[t0,t1,.any,.any,.any,.any,.any,t7,t8,.any,.any,.any,.any,.any,.any,.any,.any,.any,.any],loc,h⟩
theorem HV(hw:TC Tryz.prog Θ Γ MS (aW Sa K) ⟨[a0,a1,u,u,u,u,u,u,u,u,u,u,u,u,u,u,u,u,u],[],h⟩):T Tryz.prog Γ Fn.Vf [a0,a1] h K:=
  TB Tryz.func59 (aG Tryz.f59) hw
def AO:C:=.seq (.reg [mA 2 0,mT 3 false]) (.seq (.reg [mF 4 0 2,mL 5 1 4,mL 6 1 1,mB 7 .eql 5 6,mV 3 7]) .ret)
def AZ:List RS:=[.t 3]
theorem HX(hw:TC Tryz.prog Θ Γ AO (aW AZ K) ⟨[a0,a1,u,u,u,u,u,u],[],h⟩):T Tryz.prog Γ Fn.JJ [a0,a1] h K:=
  TB Tryz.func60 (aG Tryz.f60) hw
def qS:List O:=[mV 79 9,⟨(some 80),none,.nilchk (.t 79)⟩,mF 81 1 80,mL 82 1 81,mV 83 9,⟨(some 84),none,.nilchk (.t 83)⟩,mF 85 1 84,mL 86 1 85,mN 87 86,mI 88 .sub 87 1,mX 89 2 82 88,mV 14 89]
def sF:List (List Nat):=[[],[0],[1],[2],[],[4],[5],[6],[7],[8],[3,9],[10,0,1,2,3,4,5,6,7,8,9,10]]
theorem cV(gl:Gl)(Q:AE→St→Prop)(s:St):aw Tryz.prog Θ Γ gl (.regD qS sF) Q s=dI Tryz.prog Γ gl [mV 79 9,⟨(some 80),none,.nilchk (.t 79)⟩,mF 81 1 80,mL 82 1 81,mV 83 9,⟨(some 84),none,.nilchk (.t 83)⟩,mF 85 1 84,mL 86 1 85,mN 87 86,mI 88 .sub 87 1,mX 89 2 82 88,mV 14 89] [mV 79 9,⟨(some 80),none,.nilchk (.t 79)⟩,mF 81 1 80,mL 82 1 81,mV 83 9,⟨(some 84),none,.nilchk (.t 83)⟩,mF 85 1 84,mL 86 1 85,mN 87 86,mI 88 .sub 87 1,mX 89 2 82 88,mV 14 89] (Q .normal) s:=TM (by kernel_rfl) gl Q s
def sM:List O:=[mV 90 14,mV 91 14,⟨(some 92),none,.nilchk (.t 91)⟩,mF 93 1 92,mL 94 1 93,mG 95 6 12,⟨(some 96),none,.bsl 6 1 [.int .i64 0,.int .i64 0,.int .i64 0,.int .i64 0,.int .i64 0,.str ⟨#[]⟩] [(0,.t 95)]⟩,⟨(some 97),none,.app 6 56 [.int .i64 0,.int .i64 0,.int .i64 0,.int .i64 0,.int .i64 0,.str ⟨#[]⟩] false (.t 94) (.t 96)⟩,⟨(some 98),none,.nilchk (.t 90)⟩,mF 99 1 98,mS 1 99 97]
def sS:List (List Nat):=[[],[],[1],[2],[3],[],[5],[4,6],[0,0,1,2,3,4,5,6,7],[8,0,1,2,3,4,5,6,7],[9,7,7,0,1,2,3,4,5,6,7]]
theorem cU(gl:Gl)(Q:AE→St→Prop)(s:St):aw Tryz.prog Θ Γ gl (.regD sM sS) Q s=bV Tryz.prog Γ gl [mV 90 14,mV 91 14,⟨(some 92),none,.nilchk (.t 91)⟩,mF 93 1 92,mL 94 1 93,mG 95 6 12,⟨(some 96),none,.bsl 6 1 [.int .i64 0,.int .i64 0,.int .i64 0,.int .i64 0,.int .i64 0,.str ⟨#[]⟩] [(0,.t 95)]⟩,⟨(some 97),none,.app 6 56 [.int .i64 0,.int .i64 0,.int .i64 0,.int .i64 0,.int .i64 0,.str ⟨#[]⟩] false (.t 94) (.t 96)⟩,⟨(some 98),none,.nilchk (.t 90)⟩,mF 99 1 98,mS 1 99 97] (Q .normal) 11 (.q 0 (.q 1 (.q 2 (.q 3 (.q 4 (.q 5 (.all [(6,.q 7 (.q 8 (.q 9 (.q 10 (.done)))))]))))))) s:=eX rfl (by kernel_rfl) gl Q s
def IC:C:=.seq (.reg [⟨(some 2),none,.mov (.c (.nils))⟩,mT 3 false]) (.seq (.seq (.reg [mV 15 0,⟨(some 16),none,.len true (.t 15)⟩,mI 17 .gtr 16 4000]) (.cond (.t 17) (.seq (.reg [⟨(some 2),none,.mov (.c (.nils))⟩,mT 3 false]) .ret) .skip)) (.seq (.reg [⟨(some 18),none,.bsl 2 0 [.str ⟨#[]⟩,.nils] []⟩,mV 4 18]) (.seq (.seq (.reg [mV 19 0,⟨(some 20),none,.call (.c (.fn Fn.Ux [] [])) [.t 19,.c (.str ⟨#[10]⟩)]⟩,mN 21 20,mK 22 0]) (.block 0 (.loop (.seq (.reg [mB 23 .lss 22 21]) (.seq (.cond (.t 23) .skip (.exit 0)) (.seq (.block 1 (.seq (.reg [mX 24 1 20 22,mL 25 1 24,mV 6 25]) (.seq (.seq (.reg [mV 27 6,⟨(some 28),none,.call (.c (.fn Fn.WY [] [])) [.t 27,.c (.str ⟨#[115,99,114,105,112,116,32]⟩)]⟩,mV 26 28,⟨(some 29),none,.extr (.t 26) 0⟩,⟨(some 30),none,.extr (.t 26) 1⟩,mV 7 29,mV 8 30]) (.seq (.reg [mV 31 8]) (.cond (.t 31) (.seq (.reg [mV 32 4,mV 33 7,⟨(some 34),none,.build [.str ⟨#[]⟩,.nils] [(0,1,.t 33)]⟩,⟨(some 35),none,.bsl 2 1 [.str ⟨#[]⟩,.nils] [(0,.t 34)]⟩,⟨(some 36),none,.app 2 40 [.str ⟨#[]⟩,.nils] false (.t 32) (.t 35)⟩,mV 4 36]) (.exit 1)) .skip))) (.seq (.seq (.reg [mV 37 6,⟨(some 38),none,.bin .eql (.num) (.t 37) (.c (.str ⟨#[]⟩))⟩]) (.cond (.t 38) (.exit 1) .skip)) (.seq (.seq (.reg [mV 39 4,mN 40 39,mI 41 .eql 40 0]) (.cond (.t 41) (.seq (.reg [⟨(some 2),none,.mov (.c (.nils))⟩,mT 3 false]) .ret) .skip)) (.seq (.reg [mV 42 4,mV 43 4,mN 44 43,mI 45 .sub 44 1,mX 46 2 42 45,mV 9 46]) (.seq (.seq (.reg [mV 48 6,⟨(some 49),none,.call (.c (.fn Fn.WY [] [])) [.t 48,.c (.str ⟨#[109,101,116,104,111,100,32]⟩)]⟩,mV 47 49,⟨(some 50),none,.extr (.t 47) 0⟩,⟨(some 51),none,.extr (.t 47) 1⟩,mV 10 50,mV 11 51]) (.seq (.reg [mV 52 11]) (.cond (.t 52) (.seq (.reg [mV 53 9,mV 54 9,⟨(some 55),none,.nilchk (.t 54)⟩,mF 56 1 55,mL 57 1 56,mV 58 10,⟨(some 59),none,.build [.str ⟨#[]⟩,.nils] [(0,1,.t 58)]⟩,⟨(some 60),none,.bsl 2 1 [.str ⟨#[]⟩,.nils] [(0,.t 59)]⟩,⟨(some 61),none,.app 2 40 [.str ⟨#[]⟩,.nils] false (.t 57) (.t 60)⟩,⟨(some 62),none,.nilchk (.t 53)⟩,mF 63 1 62,mS 1 63 61]) (.exit 1)) .skip))) (.seq (.reg [mV 65 6,mC 66 Fn.VE [.t 65],mV 64 66,⟨(some 67),none,.extr (.t 64) 0⟩,⟨(some 68),none,.extr (.t 64) 1⟩,⟨(some 12),none,.alloc [.int .i64 0,.int .i64 0,.int .i64 0,.int .i64 0,.int .i64 0,.str ⟨#[]⟩]⟩,mS 6 12 67,mV 13 68]) (.seq (.seq (.reg [mV 69 13,mU 70 69,mV 71 70,⟨(some 72),(some (2,false)),.mov (.t 9)⟩,⟨(some 73),(some (2,false)),.nilchk (.t 72)⟩,⟨(some 74),(some (2,false)),.fld 1 (.t 73)⟩,⟨(some 75),(some (2,false)),.load 1 false (.t 74)⟩,⟨(some 76),(some (2,false)),.len false (.t 75)⟩,⟨(some 77),(some (2,false)),.bin .eql (.num) (.t 76) (.c (.int .i64 0))⟩,⟨(some 78),none,.pick (.t 71) (.c (.bool true)) (.t 77)⟩]) (.cond (.t 78) (.seq (.reg [⟨(some 2),none,.mov (.c (.nils))⟩,mT 3 false]) .ret) .skip)) (.seq (.regD qS sF) (.regD sM sS))))))))))) (.reg [mI 100 .add 22 1,mV 22 100]))))))) (.seq (.seq (.reg [mV 101 4,mC 102 Fn.V2 [.t 101],mU 103 102,mV 104 103,⟨(some 105),(some (3,false)),.mov (.t 4)⟩,⟨(some 106),(some (3,false)),.call (.c (.fn Fn.VS [] [])) [.t 105]⟩,⟨(some 107),(some (3,false)),.mov (.t 0)⟩,⟨(some 108),(some (3,false)),.bin .neq (.num) (.t 106) (.t 107)⟩,⟨(some 109),none,.pick (.t 104) (.c (.bool true)) (.t 108)⟩]) (.cond (.t 109) (.seq (.reg [⟨(some 2),none,.mov (.c (.nils))⟩,mT 3 false]) .ret) .skip)) (.seq (.reg [mV 110 4,mV 2 110,mT 3 true]) .ret)))))
def fZ:List RS:=[.t 2,.t 3]
def kU(t0 t4 t20 t21 t22:AV)(loc:List (List AV))(h:AH):St:=⟨[t0,.any,.any,.any,t4,.any,.any,.any,.any,.any,.any,.any,.any,.any,.any,.any,.any,.any,.any,.any,t20,t21,t22,.any,.any,.any,.any,.any,.any,.any,.any,.any,.any,.any,.any,.any,.any,.any,.any,.any,.any,.any,.any,.any,.any,.any,.any,.any,.any,.any,.any,.any,.any,.any,.any,.any,.any,.any,.any,.any,.any,.any,.any,.any,.any,.any,.any,.any,.any,.any,.any,.any,.any,.any,.any,.any,.any,.any,.any,.any,.any,.any,.any,.any,.any,.any,.any,.any,.any,.any,.any,.any,.any,.any,.any,.any,.any,.any,.any,.any,.any,.any,.any,.any,.any,.any,.any,.any,.any,.any,.any],loc,h⟩
theorem N9(hw:TC Tryz.prog Θ Γ IC (aW fZ K) ⟨[a0,u,u,u,u,u,u,u,u,u,u,u,u,u,u,u,u,u,u,u,u,u,u,u,u,u,u,u,u,u,u,u,u,u,u,u,u,u,u,u,u,u,u,u,u,u,u,u,u,u,u,u,u,u,u,u,u,u,u,u,u,u,u,u,u,u,u,u,u,u,u,u,u,u,u,u,u,u,u,u,u,u,u,u,u,u,u,u,u,u,u,u,u,u,u,u,u,u,u,u,u,u,u,u,u,u,u,u,u,u,u],[],h⟩):T Tryz.prog Γ Fn.Xp [a0] h K:=
  TB Tryz.func61 (aG Tryz.f61) hw
def Ix:C:=.seq (.reg [mA 2 0,mA 3 1,mT 4 false]) (.seq (.seq (.reg [mF 5 0 2,mL 6 1 5,mF 7 0 3,mL 8 1 7,mB 9 .neq 6 8]) (.cond (.t 9) (.seq (.reg [mT 4 false]) .ret) .skip)) (.seq (.seq (.reg [mF 10 1 2,mL 11 1 10,mF 12 1 3,mL 13 1 12,mB 14 .neq 11 13]) (.cond (.t 14) (.seq (.reg [mT 4 false]) .ret) .skip)) (.seq (.seq (.reg [mF 15 2 2,mL 16 1 15,mF 17 2 3,mL 18 1 17,mC 19 Fn.Vw [.t 16,.t 18],mU 20 19]) (.cond (.t 20) (.seq (.reg [mT 4 false]) .ret) .skip)) (.seq (.seq (.reg [mF 21 3 2,mL 22 1 21,mF 23 3 3,mL 24 1 23,mB 25 .neq 22 24]) (.cond (.t 25) (.seq (.reg [mT 4 false]) .ret) .skip)) (.seq (.seq (.reg [mF 26 4 2,mG 27 2 26,mF 28 4 3,mG 29 2 28,mC 30 Fn.K9 [.t 27,.t 29],mU 31 30]) (.cond (.t 31) (.seq (.reg [mT 4 false]) .ret) .skip)) (.seq (.seq (.reg [mF 32 6 2,mL 33 1 32,mF 34 6 3,mL 35 1 34,mC 36 Fn.UO [.t 33,.t 35],mU 37 36]) (.cond (.t 37) (.seq (.reg [mT 4 false]) .ret) .skip)) (.seq (.seq (.reg [mF 38 7 2,mL 39 1 38,mF 40 7 3,mL 41 1 40,mC 42 Fn.VG [.t 39,.t 41],mU 43 42]) (.cond (.t 43) (.seq (.reg [mT 4 false]) .ret) .skip)) (.seq (.seq (.reg [mF 44 8 2,mL 45 1 44,mF 46 8 3,mL 47 1 46,mB 48 .neq 45 47]) (.cond (.t 48) (.seq (.reg [mT 4 false]) .ret) .skip)) (.seq (.seq (.reg [mF 49 9 2,mL 50 1 49,mF 51 9 3,mL 52 1 51,mB 53 .neq 50 52]) (.cond (.t 53) (.seq (.reg [mT 4 false]) .ret) .skip)) (.seq (.seq (.reg [mF 54 10 2,mL 55 1 54,mF 56 10 3,mL 57 1 56,mB 58 .neq 55 57]) (.cond (.t 58) (.seq (.reg [mT 4 false]) .ret) .skip)) (.seq (.seq (.reg [mF 59 11 2,mL 60 1 59,mF 61 11 3,mL 62 1 61,mB 63 .neq 60 62]) (.cond (.t 63) (.seq (.reg [mT 4 false]) .ret) .skip)) (.seq (.reg [mT 4 true]) .ret))))))))))))
def dL:List RS:=[.t 4]
theorem M5(hw:TC Tryz.prog Θ Γ Ix (aW dL K) ⟨[a0,a1,u,u,u,u,u,u,u,u,u,u,u,u,u,u,u,u,u,u,u,u,u,u,u,u,u,u,u,u,u,u,u,u,u,u,u,u,u,u,u,u,u,u,u,u,u,u,u,u,u,u,u,u,u,u,u,u,u,u,u,u,u,u],[],h⟩):T Tryz.prog Γ Fn.QX [a0,a1] h K:=
  TB Tryz.func63 (aG Tryz.f63) hw
def Fe:C:=.seq (.reg [mA 2 0,mA 3 1,mT 4 false]) (.seq (.seq (.reg [mF 5 0 2,mL 6 1 5,mF 7 0 3,mL 8 1 7,mB 9 .neq 6 8]) (.cond (.t 9) (.seq (.reg [mT 4 false]) .ret) .skip)) (.seq (.seq (.reg [mF 10 1 2,mL 11 1 10,mF 12 1 3,mL 13 1 12,mB 14 .neq 11 13]) (.cond (.t 14) (.seq (.reg [mT 4 false]) .ret) .skip)) (.seq (.seq (.reg [mF 15 2 2,mL 16 1 15,mF 17 2 3,mL 18 1 17,mC 19 Fn.Vw [.t 16,.t 18],mU 20 19]) (.cond (.t 20) (.seq (.reg [mT 4 false]) .ret) .skip)) (.seq (.seq (.reg [mF 21 3 2,mL 22 1 21,mF 23 3 3,mL 24 1 23,mB 25 .neq 22 24]) (.cond (.t 25) (.seq (.reg [mT 4 false]) .ret) .skip)) (.seq (.seq (.reg [mF 26 4 2,mG 27 3 26,mF 28 4 3,mG 29 3 28,mC 30 Fn.Vg [.t 27,.t 29],mU 31 30]) (.cond (.t 31) (.seq (.reg [mT 4 false]) .ret) .skip)) (.seq (.reg [mT 4 true]) .ret))))))
def iA:List RS:=[.t 4]
theorem Ml(hw:TC Tryz.prog Θ Γ Fe (aW iA K) ⟨[a0,a1,u,u,u,u,u,u,u,u,u,u,u,u,u,u,u,u,u,u,u,u,u,u,u,u,u,u,u,u,u,u],[],h⟩):T Tryz.prog Γ Fn.OM [a0,a1] h K:=
  TB Tryz.func64 (aG Tryz.f64) hw
def Gx:C:=.seq (.reg [mA 2 0,mA 3 1,mT 4 false]) (.seq (.seq (.reg [mF 5 0 2,mL 6 1 5,mF 7 0 3,mL 8 1 7,mB 9 .neq 6 8]) (.cond (.t 9) (.seq (.reg [mT 4 false]) .ret) .skip)) (.seq (.seq (.reg [mF 10 1 2,mL 11 1 10,mF 12 1 3,mL 13 1 12,⟨(some 14),none,.bin .neq (.bool) (.t 11) (.t 13)⟩]) (.cond (.t 14) (.seq (.reg [mT 4 false]) .ret) .skip)) (.seq (.seq (.reg [mF 15 2 2,mL 16 1 15,mF 17 2 3,mL 18 1 17,mC 19 Fn.Wq [.t 16,.t 18],mU 20 19]) (.cond (.t 20) (.seq (.reg [mT 4 false]) .ret) .skip)) (.seq (.seq (.reg [mF 21 3 2,mL 22 1 21,mF 23 3 3,mL 24 1 23,mB 25 .neq 22 24]) (.cond (.t 25) (.seq (.reg [mT 4 false]) .ret) .skip)) (.seq (.seq (.reg [mF 26 4 2,mL 27 1 26,mF 28 4 3,mL 29 1 28,mC 30 Fn.UY [.t 27,.t 29],mU 31 30]) (.cond (.t 31) (.seq (.reg [mT 4 false]) .ret) .skip)) (.seq (.seq (.reg [mF 32 5 2,mL 33 1 32,mF 34 5 3,mL 35 1 34,mB 36 .neq 33 35]) (.cond (.t 36) (.seq (.reg [mT 4 false]) .ret) .skip)) (.seq (.seq (.reg [mF 37 6 2,mL 38 1 37,mF 39 6 3,mL 40 1 39,mC 41 Fn.UY [.t 38,.t 40],mU 42 41]) (.cond (.t 42) (.seq (.reg [mT 4 false]) .ret) .skip)) (.seq (.reg [mT 4 true]) .ret))))))))
def fI:List RS:=[.t 4]
theorem To(hw:TC Tryz.prog Θ Γ Gx (aW fI K) ⟨[a0,a1,u,u,u,u,u,u,u,u,u,u,u,u,u,u,u,u,u,u,u,u,u,u,u,u,u,u,u,u,u,u,u,u,u,u,u,u,u,u,u,u,u],[],h⟩):T Tryz.prog Γ Fn.Uu [a0,a1] h K:=
  TB Tryz.func65 (aG Tryz.f65) hw
def JD:C:=.seq (.reg [mA 2 0,mA 3 1,mT 4 false]) (.seq (.seq (.reg [mF 5 0 2,mL 6 1 5,mF 7 0 3,mL 8 1 7,mB 9 .neq 6 8]) (.cond (.t 9) (.seq (.reg [mT 4 false]) .ret) .skip)) (.seq (.seq (.reg [mF 10 1 2,mG 11 12 10,mF 12 1 3,mG 13 12 12,mC 14 Fn.Xb [.t 11,.t 13],mU 15 14]) (.cond (.t 15) (.seq (.reg [mT 4 false]) .ret) .skip)) (.seq (.reg [mT 4 true]) .ret)))
def pU:List RS:=[.t 4]
theorem Uh(hw:TC Tryz.prog Θ Γ JD (aW pU K) ⟨[a0,a1,u,u,u,u,u,u,u,u,u,u,u,u,u,u],[],h⟩):T Tryz.prog Γ Fn.Ol [a0,a1] h K:=
  TB Tryz.func66 (aG Tryz.f66) hw
def Bm:C:=.seq (.reg [mK 4 0]) (.seq (.seq (.reg [mK 5 0]) (.block 0 (.loop (.seq (.seq (.reg [mV 6 5,mV 7 0,mN 8 7,mB 9 .lss 6 8]) (.cond (.t 9) .skip (.exit 0))) (.seq (.block 1 (.seq (.reg [mV 12 0,mV 13 5,mV 14 1,mX 15 2 12 13,mF 16 0 15,mS 1 16 14]) (.seq (.reg [mV 17 1,mI 18 .add 17 1,mV 1 18]) (.seq (.reg [mV 19 0,mV 20 5,mV 21 1,mX 22 2 19 20,mF 23 1 22,mS 1 23 21]) (.reg [mV 24 1,mI 25 .add 24 1,mV 1 25]))))) (.reg [mV 10 5,mI 11 .add 10 1,mV 5 11])))))) (.seq (.reg [mV 26 1,mV 4 26]) .ret))
def pC:List RS:=[.t 4]
def kV(t0 t1 t5:AV)(loc:List (List AV))(h:AH):St:=⟨[t0,t1,.any,.any,.any,t5,.any,.any,.any,.any,.any,.any,.any,.any,.any,.any,.any,.any,.any,.any,.any,.any,.any,.any,.any,.any,.any],loc,h⟩
theorem FU(hw:TC Tryz.prog Θ Γ Bm (aW pC K) ⟨[a0,a1,u,u,u,u,u,u,u,u,u,u,u,u,u,u,u,u,u,u,u,u,u,u,u,u,u],[],h⟩):T Tryz.prog Γ Fn.UG [a0,a1] h K:=
  TB Tryz.func67 (aG Tryz.f67) hw
def CF:C:=.seq (.reg [mK 4 0]) (.seq (.seq (.reg [mK 5 0]) (.block 0 (.loop (.seq (.seq (.reg [mV 6 5,mV 7 0,mN 8 7,mB 9 .lss 6 8]) (.cond (.t 9) .skip (.exit 0))) (.seq (.block 1 (.seq (.reg [mV 12 0,mV 13 5,mV 14 1,mX 15 2 12 13,mF 16 0 15,mS 1 16 14]) (.seq (.reg [mV 17 1,mI 18 .add 17 1,mV 1 18]) (.seq (.reg [mV 19 0,mV 20 5,mV 21 1,mX 22 2 19 20,mF 23 1 22,mS 1 23 21]) (.reg [mV 24 1,mI 25 .add 24 1,mV 1 25]))))) (.reg [mV 10 5,mI 11 .add 10 1,mV 5 11])))))) (.seq (.reg [mV 26 1,mV 4 26]) .ret))
def pf:List RS:=[.t 4]
def lj(t0 t1 t5:AV)(loc:List (List AV))(h:AH):St:=⟨[t0,t1,.any,.any,.any,t5,.any,.any,.any,.any,.any,.any,.any,.any,.any,.any,.any,.any,.any,.any,.any,.any,.any,.any,.any,.any,.any],loc,h⟩
theorem G1(hw:TC Tryz.prog Θ Γ CF (aW pf K) ⟨[a0,a1,u,u,u,u,u,u,u,u,u,u,u,u,u,u,u,u,u,u,u,u,u,u,u,u,u],[],h⟩):T Tryz.prog Γ Fn.V4 [a0,a1] h K:=
  TB Tryz.func68 (aG Tryz.f68) hw
def Jy:C:=.seq (.reg [⟨(some 2),none,.mov (.c (.str ⟨#[]⟩))⟩]) (.seq (.seq (.reg [mV 4 0,mI 5 .leq 4 0]) (.cond (.t 5) (.seq (.reg [⟨(some 2),none,.mov (.c (.str ⟨#[109,48]⟩))⟩]) .ret) .skip)) (.seq (.reg [⟨(some 3),none,.mov (.c (.str ⟨#[]⟩))⟩]) (.seq (.block 0 (.loop (.seq (.seq (.reg [mV 6 0,mI 7 .gtr 6 0]) (.cond (.t 7) .skip (.exit 0))) (.block 1 (.seq (.reg [mV 8 0,mI 9 .rem 8 10,⟨(some 10),none,.bin .add (.num) (.c (.int .i64 48)) (.t 9)⟩,⟨(some 11),none,.cvi .u8 (.t 10)⟩,⟨(some 12),none,.bsl 1 1 [.int .u8 0] [(0,.t 11)]⟩,⟨(some 13),none,.cvt (.t 12)⟩,mV 14 3,mB 15 .add 13 14,mV 3 15]) (.reg [mV 16 0,mI 17 .quo 16 10,mV 0 17])))))) (.seq (.reg [mV 18 3,⟨(some 19),none,.bin .add (.num) (.c (.str ⟨#[109]⟩)) (.t 18)⟩,mV 2 19]) .ret))))
def nO:List RS:=[.t 2]
def uW(t0 t3:AV)(loc:List (List AV))(h:AH):St:=⟨[t0,.any,.any,t3,.any,.any,.any,.any,.any,.any,.any,.any,.any,.any,.any,.any,.any,.any,.any,.any],loc,h⟩
theorem MI(hw:TC Tryz.prog Θ Γ Jy (aW nO K) ⟨[a0,u,u,u,u,u,u,u,u,u,u,u,u,u,u,u,u,u,u,u],[],h⟩):T Tryz.prog Γ Fn.Ei [a0] h K:=
  TB Tryz.func69 (aG Tryz.f69) hw
def Ck:C:=.seq (.reg [mK 4 0]) (.seq (.seq (.reg [mK 5 0]) (.block 0 (.loop (.seq (.seq (.reg [mV 6 5,mV 7 0,mN 8 7,mB 9 .lss 6 8]) (.cond (.t 9) .skip (.exit 0))) (.seq (.block 1 (.seq (.reg [mV 12 0,mV 13 5,mV 14 1,mX 15 3 12 13,mF 16 0 15,mS 1 16 14]) (.seq (.reg [mV 17 1,mI 18 .add 17 1,mV 1 18]) (.seq (.reg [mV 19 0,mV 20 5,mV 21 1,mX 22 3 19 20,mF 23 1 22,mS 1 23 21]) (.seq (.reg [mV 24 1,mI 25 .add 24 1,mV 1 25]) (.seq (.reg [mV 26 0,mV 27 5,mV 28 1,mX 29 3 26 27,mF 30 2 29,mS 1 30 28]) (.reg [mV 31 1,mI 32 .add 31 1,mV 1 32]))))))) (.reg [mV 10 5,mI 11 .add 10 1,mV 5 11])))))) (.seq (.reg [mV 33 1,mV 4 33]) .ret))
def py:List RS:=[.t 4]
def ll(t0 t1 t5:AV)(loc:List (List AV))(h:AH):St:=⟨[t0,t1,.any,.any,.any,t5,.any,.any,.any,.any,.any,.any,.any,.any,.any,.any,.any,.any,.any,.any,.any,.any,.any,.any,.any,.any,.any,.any,.any,.any,.any,.any,.any,.any],loc,h⟩
theorem JM(hw:TC Tryz.prog Θ Γ Ck (aW py K) ⟨[a0,a1,u,u,u,u,u,u,u,u,u,u,u,u,u,u,u,u,u,u,u,u,u,u,u,u,u,u,u,u,u,u,u,u],[],h⟩):T Tryz.prog Γ Fn.Xo [a0,a1] h K:=
  TB Tryz.func70 (aG Tryz.f70) hw
def BC:C:=.seq (.reg [mK 4 0]) (.seq (.seq (.reg [mK 5 0]) (.block 0 (.loop (.seq (.seq (.reg [mV 6 5,mV 7 0,mN 8 7,mB 9 .lss 6 8]) (.cond (.t 9) .skip (.exit 0))) (.seq (.block 1 (.seq (.reg [mV 12 0,mV 13 5,mV 14 1,mX 15 2 12 13,mF 16 0 15,mS 1 16 14]) (.seq (.reg [mV 17 1,mI 18 .add 17 1,mV 1 18]) (.seq (.reg [mV 19 0,mV 20 5,mV 21 1,mX 22 2 19 20,mF 23 1 22,mS 1 23 21]) (.reg [mV 24 1,mI 25 .add 24 1,mV 1 25]))))) (.reg [mV 10 5,mI 11 .add 10 1,mV 5 11])))))) (.seq (.reg [mV 26 1,mV 4 26]) .ret))
def qm:List RS:=[.t 4]
def kK(t0 t1 t5:AV)(loc:List (List AV))(h:AH):St:=⟨[t0,t1,.any,.any,.any,t5,.any,.any,.any,.any,.any,.any,.any,.any,.any,.any,.any,.any,.any,.any,.any,.any,.any,.any,.any,.any,.any],loc,h⟩
theorem Jk(hw:TC Tryz.prog Θ Γ BC (aW qm K) ⟨[a0,a1,u,u,u,u,u,u,u,u,u,u,u,u,u,u,u,u,u,u,u,u,u,u,u,u,u],[],h⟩):T Tryz.prog Γ Fn.Vc [a0,a1] h K:=
  TB Tryz.func71 (aG Tryz.f71) hw
def BU:C:=.seq (.reg [mK 4 0]) (.seq (.seq (.reg [mK 5 0]) (.block 0 (.loop (.seq (.seq (.reg [mV 6 5,mV 7 0,mN 8 7,mB 9 .lss 6 8]) (.cond (.t 9) .skip (.exit 0))) (.seq (.block 1 (.seq (.reg [mV 12 0,mV 13 5,mV 14 1,mX 15 2 12 13,mF 16 0 15,mS 1 16 14]) (.seq (.reg [mV 17 1,mI 18 .add 17 1,mV 1 18]) (.seq (.reg [mV 19 0,mV 20 5,mV 21 1,mX 22 2 19 20,mF 23 1 22,mS 1 23 21]) (.reg [mV 24 1,mI 25 .add 24 1,mV 1 25]))))) (.reg [mV 10 5,mI 11 .add 10 1,mV 5 11])))))) (.seq (.reg [mV 26 1,mV 4 26]) .ret))
def pn:List RS:=[.t 4]
def kX(t0 t1 t5:AV)(loc:List (List AV))(h:AH):St:=⟨[t0,t1,.any,.any,.any,t5,.any,.any,.any,.any,.any,.any,.any,.any,.any,.any,.any,.any,.any,.any,.any,.any,.any,.any,.any,.any,.any],loc,h⟩
theorem Fj(hw:TC Tryz.prog Θ Γ BU (aW pn K) ⟨[a0,a1,u,u,u,u,u,u,u,u,u,u,u,u,u,u,u,u,u,u,u,u,u,u,u,u,u],[],h⟩):T Tryz.prog Γ Fn.Wm [a0,a1] h K:=
  TB Tryz.func72 (aG Tryz.f72) hw
def F9:C:=.seq (.reg [mK 4 0]) (.seq (.seq (.reg [mK 5 0]) (.block 0 (.loop (.seq (.seq (.reg [mV 6 5,mV 7 0,mN 8 7,mB 9 .lss 6 8]) (.cond (.t 9) .skip (.exit 0))) (.seq (.block 1 (.seq (.seq (.reg [mV 12 0,mV 13 5,mX 14 2 12 13,mF 15 0 14,mL 16 1 15,mV 17 1,mB 18 .neq 16 17]) (.cond (.t 18) (.seq (.reg [mK 4 (-1)]) .ret) .skip)) (.seq (.reg [mV 19 1,mI 20 .add 19 1,mV 1 20]) (.seq (.seq (.reg [mV 21 0,mV 22 5,mX 23 2 21 22,mF 24 1 23,mL 25 1 24,mV 26 1,mB 27 .neq 25 26]) (.cond (.t 27) (.seq (.reg [mK 4 (-1)]) .ret) .skip)) (.reg [mV 28 1,mI 29 .add 28 1,mV 1 29]))))) (.reg [mV 10 5,mI 11 .add 10 1,mV 5 11])))))) (.seq (.reg [mV 30 1,mV 4 30]) .ret))
def vY:List RS:=[.t 4]
def uD(t0 t1 t5:AV)(loc:List (List AV))(h:AH):St:=⟨[t0,t1,.any,.any,.any,t5,.any,.any,.any,.any,.any,.any,.any,.any,.any,.any,.any,.any,.any,.any,.any,.any,.any,.any,.any,.any,.any,.any,.any,.any,.any],loc,h⟩
theorem Mh(hw:TC Tryz.prog Θ Γ F9 (aW vY K) ⟨[a0,a1,u,u,u,u,u,u,u,u,u,u,u,u,u,u,u,u,u,u,u,u,u,u,u,u,u,u,u,u,u],[],h⟩):T Tryz.prog Γ Fn.Vt [a0,a1] h K:=
  TB Tryz.func73 (aG Tryz.f73) hw
def I7:C:=.seq (.reg [mK 4 0]) (.seq (.seq (.reg [mK 5 0]) (.block 0 (.loop (.seq (.seq (.reg [mV 6 5,mV 7 0,mN 8 7,mB 9 .lss 6 8]) (.cond (.t 9) .skip (.exit 0))) (.seq (.block 1 (.seq (.seq (.reg [mV 12 0,mV 13 5,mX 14 2 12 13,mF 15 0 14,mL 16 1 15,mV 17 1,mB 18 .neq 16 17]) (.cond (.t 18) (.seq (.reg [mK 4 (-1)]) .ret) .skip)) (.seq (.reg [mV 19 1,mI 20 .add 19 1,mV 1 20]) (.seq (.seq (.reg [mV 21 0,mV 22 5,mX 23 2 21 22,mF 24 1 23,mL 25 1 24,mV 26 1,mB 27 .neq 25 26]) (.cond (.t 27) (.seq (.reg [mK 4 (-1)]) .ret) .skip)) (.reg [mV 28 1,mI 29 .add 28 1,mV 1 29]))))) (.reg [mV 10 5,mI 11 .add 10 1,mV 5 11])))))) (.seq (.reg [mV 30 1,mV 4 30]) .ret))
def wM:List RS:=[.t 4]
def vp(t0 t1 t5:AV)(loc:List (List AV))(h:AH):St:=⟨[t0,t1,.any,.any,.any,t5,.any,.any,.any,.any,.any,.any,.any,.any,.any,.any,.any,.any,.any,.any,.any,.any,.any,.any,.any,.any,.any,.any,.any,.any,.any],loc,h⟩
theorem RP(hw:TC Tryz.prog Θ Γ I7 (aW wM K) ⟨[a0,a1,u,u,u,u,u,u,u,u,u,u,u,u,u,u,u,u,u,u,u,u,u,u,u,u,u,u,u,u,u],[],h⟩):T Tryz.prog Γ Fn.WN [a0,a1] h K:=
  TB Tryz.func74 (aG Tryz.f74) hw
def Jc:C:=.seq (.reg [mK 4 0]) (.seq (.seq (.reg [mK 5 0]) (.block 0 (.loop (.seq (.seq (.reg [mV 6 5,mV 7 0,mN 8 7,mB 9 .lss 6 8]) (.cond (.t 9) .skip (.exit 0))) (.seq (.block 1 (.seq (.seq (.reg [mV 12 0,mV 13 5,mX 14 3 12 13,mF 15 0 14,mL 16 1 15,mV 17 1,mB 18 .neq 16 17]) (.cond (.t 18) (.seq (.reg [mK 4 (-1)]) .ret) .skip)) (.seq (.reg [mV 19 1,mI 20 .add 19 1,mV 1 20]) (.seq (.seq (.reg [mV 21 0,mV 22 5,mX 23 3 21 22,mF 24 1 23,mL 25 1 24,mV 26 1,mB 27 .neq 25 26]) (.cond (.t 27) (.seq (.reg [mK 4 (-1)]) .ret) .skip)) (.seq (.reg [mV 28 1,mI 29 .add 28 1,mV 1 29]) (.seq (.seq (.reg [mV 30 0,mV 31 5,mX 32 3 30 31,mF 33 2 32,mL 34 1 33,mV 35 1,mB 36 .neq 34 35]) (.cond (.t 36) (.seq (.reg [mK 4 (-1)]) .ret) .skip)) (.reg [mV 37 1,mI 38 .add 37 1,mV 1 38]))))))) (.reg [mV 10 5,mI 11 .add 10 1,mV 5 11])))))) (.seq (.reg [mV 39 1,mV 4 39]) .ret))
def xd:List RS:=[.t 4]
def vz(t0 t1 t5:AV)(loc:List (List AV))(h:AH):St:=⟨[t0,t1,.any,.any,.any,t5,.any,.any,.any,.any,.any,.any,.any,.any,.any,.any,.any,.any,.any,.any,.any,.any,.any,.any,.any,.any,.any,.any,.any,.any,.any,.any,.any,.any,.any,.any,.any,.any,.any,.any],loc,h⟩
theorem Ll(hw:TC Tryz.prog Θ Γ Jc (aW xd K) ⟨[a0,a1,u,u,u,u,u,u,u,u,u,u,u,u,u,u,u,u,u,u,u,u,u,u,u,u,u,u,u,u,u,u,u,u,u,u,u,u,u,u],[],h⟩):T Tryz.prog Γ Fn.VT [a0,a1] h K:=
  TB Tryz.func75 (aG Tryz.f75) hw
def GG:C:=.seq (.reg [mK 4 0]) (.seq (.seq (.reg [mK 5 0]) (.block 0 (.loop (.seq (.seq (.reg [mV 6 5,mV 7 0,mN 8 7,mB 9 .lss 6 8]) (.cond (.t 9) .skip (.exit 0))) (.seq (.block 1 (.seq (.seq (.reg [mV 12 0,mV 13 5,mX 14 2 12 13,mF 15 0 14,mL 16 1 15,mV 17 1,mB 18 .neq 16 17]) (.cond (.t 18) (.seq (.reg [mK 4 (-1)]) .ret) .skip)) (.seq (.reg [mV 19 1,mI 20 .add 19 1,mV 1 20]) (.seq (.seq (.reg [mV 21 0,mV 22 5,mX 23 2 21 22,mF 24 1 23,mL 25 1 24,mV 26 1,mB 27 .neq 25 26]) (.cond (.t 27) (.seq (.reg [mK 4 (-1)]) .ret) .skip)) (.reg [mV 28 1,mI 29 .add 28 1,mV 1 29]))))) (.reg [mV 10 5,mI 11 .add 10 1,mV 5 11])))))) (.seq (.reg [mV 30 1,mV 4 30]) .ret))
def wY:List RS:=[.t 4]
def uv(t0 t1 t5:AV)(loc:List (List AV))(h:AH):St:=⟨[t0,t1,.any,.any,.any,t5,.any,.any,.any,.any,.any,.any,.any,.any,.any,.any,.any,.any,.any,.any,.any,.any,.any,.any,.any,.any,.any,.any,.any,.any,.any],loc,h⟩
theorem QA(hw:TC Tryz.prog Θ Γ GG (aW wY K) ⟨[a0,a1,u,u,u,u,u,u,u,u,u,u,u,u,u,u,u,u,u,u,u,u,u,u,u,u,u,u,u,u,u],[],h⟩):T Tryz.prog Γ Fn.UA [a0,a1] h K:=
  TB Tryz.func76 (aG Tryz.f76) hw
def Jd:C:=.seq (.reg [mK 4 0]) (.seq (.seq (.reg [mK 5 0]) (.block 0 (.loop (.seq (.seq (.reg [mV 6 5,mV 7 0,mN 8 7,mB 9 .lss 6 8]) (.cond (.t 9) .skip (.exit 0))) (.seq (.block 1 (.seq (.seq (.reg [mV 12 0,mV 13 5,mX 14 2 12 13,mF 15 0 14,mL 16 1 15,mV 17 1,mB 18 .neq 16 17]) (.cond (.t 18) (.seq (.reg [mK 4 (-1)]) .ret) .skip)) (.seq (.reg [mV 19 1,mI 20 .add 19 1,mV 1 20]) (.seq (.seq (.reg [mV 21 0,mV 22 5,mX 23 2 21 22,mF 24 1 23,mL 25 1 24,mV 26 1,mB 27 .neq 25 26]) (.cond (.t 27) (.seq (.reg [mK 4 (-1)]) .ret) .skip)) (.reg [mV 28 1,mI 29 .add 28 1,mV 1 29]))))) (.reg [mV 10 5,mI 11 .add 10 1,mV 5 11])))))) (.seq (.reg [mV 30 1,mV 4 30]) .ret))
def vQ:List RS:=[.t 4]
def ug(t0 t1 t5:AV)(loc:List (List AV))(h:AH):St:=⟨[t0,t1,.any,.any,.any,t5,.any,.any,.any,.any,.any,.any,.any,.any,.any,.any,.any,.any,.any,.any,.any,.any,.any,.any,.any,.any,.any,.any,.any,.any,.any],loc,h⟩
theorem RM(hw:TC Tryz.prog Θ Γ Jd (aW vQ K) ⟨[a0,a1,u,u,u,u,u,u,u,u,u,u,u,u,u,u,u,u,u,u,u,u,u,u,u,u,u,u,u,u,u],[],h⟩):T Tryz.prog Γ Fn.Wl [a0,a1] h K:=
  TB Tryz.func77 (aG Tryz.f77) hw
def RQ:C:=.seq (.reg [mK 4 0]) (.seq (.reg [mV 5 1,mV 6 0,mN 7 6,mB 8 .sub 5 7,mV 1 8]) (.seq (.seq (.reg [mV 9 1,mI 10 .lss 9 0]) (.cond (.t 10) (.seq (.reg [mK 4 (-1)]) .ret) .skip)) (.seq (.reg [mV 11 1,mV 4 11]) .ret)))
def Qw:List RS:=[.t 4]
theorem QH(hw:TC Tryz.prog Θ Γ RQ (aW Qw K) ⟨[a0,a1,u,u,u,u,u,u,u,u,u,u],[],h⟩):T Tryz.prog Γ Fn.Vz [a0,a1] h K:=
  TB Tryz.func78 (aG Tryz.f78) hw
def Nj:C:=.seq (.reg [mK 4 0]) (.seq (.reg [mV 5 1,mV 6 0,mN 7 6,mB 8 .sub 5 7,mV 1 8]) (.seq (.seq (.reg [mV 9 1,mI 10 .lss 9 0]) (.cond (.t 10) (.seq (.reg [mK 4 (-1)]) .ret) .skip)) (.seq (.reg [mV 11 1,mV 4 11]) .ret)))
def Uw:List RS:=[.t 4]
theorem M4(hw:TC Tryz.prog Θ Γ Nj (aW Uw K) ⟨[a0,a1,u,u,u,u,u,u,u,u,u,u],[],h⟩):T Tryz.prog Γ Fn.Xl [a0,a1] h K:=
  TB Tryz.func79 (aG Tryz.f79) hw
def LM:C:=.seq (.reg [mK 4 0]) (.seq (.reg [mV 5 1,mV 6 0,mN 7 6,mB 8 .sub 5 7,mV 1 8]) (.seq (.seq (.reg [mV 9 1,mI 10 .lss 9 0]) (.cond (.t 10) (.seq (.reg [mK 4 (-1)]) .ret) .skip)) (.seq (.reg [mV 11 1,mV 4 11]) .ret)))
def Po:List RS:=[.t 4]
theorem Mt(hw:TC Tryz.prog Θ Γ LM (aW Po K) ⟨[a0,a1,u,u,u,u,u,u,u,u,u,u],[],h⟩):T Tryz.prog Γ Fn.Wz [a0,a1] h K:=
  TB Tryz.func80 (aG Tryz.f80) hw
def M8:C:=.seq (.reg [mK 4 0]) (.seq (.reg [mV 5 1,mV 6 0,mN 7 6,mB 8 .sub 5 7,mV 1 8]) (.seq (.seq (.reg [mV 9 1,mI 10 .lss 9 0]) (.cond (.t 10) (.seq (.reg [mK 4 (-1)]) .ret) .skip)) (.seq (.reg [mV 11 1,mV 4 11]) .ret)))
def ND:List RS:=[.t 4]
theorem O4(hw:TC Tryz.prog Θ Γ M8 (aW ND K) ⟨[a0,a1,u,u,u,u,u,u,u,u,u,u],[],h⟩):T Tryz.prog Γ Fn.Va [a0,a1] h K:=
  TB Tryz.func81 (aG Tryz.f81) hw
def FW:C:=.seq (.reg [mA 2 0,mK 4 0]) (.seq (.reg [mV 5 1,mF 6 4 2,mL 7 1 6,⟨(some 8),none,.len true (.t 7)⟩,mB 9 .sub 5 8,mV 1 9]) (.seq (.seq (.reg [mV 10 1,mI 11 .lss 10 0]) (.cond (.t 11) (.seq (.reg [mK 4 (-1)]) .ret) .skip)) (.seq (.reg [mF 12 5 2,mL 13 1 12,mV 14 1,mC 15 Fn.VD [.t 13,.t 14],mV 1 15]) (.seq (.seq (.reg [mV 16 1,mI 17 .lss 16 0]) (.cond (.t 17) (.seq (.reg [mK 4 (-1)]) .ret) .skip)) (.seq (.reg [mV 18 1,mV 4 18]) .ret)))))
def pP:List RS:=[.t 4]
theorem S0(hw:TC Tryz.prog Θ Γ FW (aW pP K) ⟨[a0,a1,u,u,u,u,u,u,u,u,u,u,u,u,u,u,u,u,u],[],h⟩):T Tryz.prog Γ Fn.WG [a0,a1] h K:=
  TB Tryz.func82 (aG Tryz.f82) hw
def Jj:C:=.seq (.reg [mA 2 0,mT 4 false]) (.seq (.seq (.reg [mF 5 0 2,mL 6 1 5]) (.block 0 (.seq (.reg [mI 8 .eql 6 0,mV 7 8]) (.cond (.t 7) (.seq (.reg [mF 9 1 2,mL 10 1 9,mC 11 Fn.xq [.t 10,.c (.int .i64 0),.c (.int .i64 999999)],mV 4 11]) .ret) (.seq (.reg [mI 13 .eql 6 1,mV 12 13]) (.cond (.t 12) (.seq (.reg [mF 14 1 2,mL 15 1 14,mI 16 .geq 15 0,mV 17 16,⟨(some 18),(some (3,true)),.fld 1 (.t 2)⟩,⟨(some 19),(some (3,true)),.load 1 false (.t 18)⟩,⟨(some 20),(some (3,true)),.mov (.t 1)⟩,⟨(some 21),(some (3,true)),.bin .lss (.num) (.t 19) (.t 20)⟩,⟨(some 22),none,.pick (.t 17) (.t 21) (.c (.bool false))⟩,mV 4 22]) .ret) .skip)))))) (.seq (.reg [mF 23 0 2,mL 24 1 23,mI 25 .eql 24 2,mV 26 25,⟨(some 27),(some (3,true)),.fld 1 (.t 2)⟩,⟨(some 28),(some (3,true)),.load 1 false (.t 27)⟩,⟨(some 29),(some (3,true)),.bin .eql (.num) (.t 28) (.c (.int .i64 0))⟩,⟨(some 30),none,.pick (.t 26) (.t 29) (.c (.bool false))⟩,mV 4 30]) .ret))
def tX:List RS:=[.t 4]
theorem Ox(hw:TC Tryz.prog Θ Γ Jj (aW tX K) ⟨[a0,a1,u,u,u,u,u,u,u,u,u,u,u,u,u,u,u,u,u,u,u,u,u,u,u,u,u,u,u,u,u],[],h⟩):T Tryz.prog Γ Fn.VI [a0,a1] h K:=
  TB Tryz.func83 (aG Tryz.f83) hw
def Hp:C:=.seq (.reg [⟨(some 2),none,.mov (.c (.nils))⟩]) (.seq (.reg [⟨(some 6),none,.bsl 7 0 [.int .i64 0,.str ⟨#[]⟩,.nils,.int .i64 0,.int .i64 0,.int .i64 0,.int .i64 0] []⟩,mV 3 6]) (.seq (.seq (.reg [mK 4 0]) (.block 0 (.loop (.seq (.seq (.reg [mV 7 4,mV 8 0,mN 9 8,mB 10 .lss 7 9]) (.cond (.t 10) .skip (.exit 0))) (.seq (.block 1 (.seq (.reg [mV 13 0,mV 14 4,mX 15 7 13 14,mG 16 7 15,⟨(some 5),none,.alloc [.int .i64 0,.str ⟨#[]⟩,.nils,.int .i64 0,.int .i64 0,.int .i64 0,.int .i64 0]⟩,mS 7 5 16]) (.seq (.reg [⟨(some 17),none,.bsl 2 0 [.int .i64 0,.int .i64 0] []⟩,mV 18 0,mV 19 4,mX 20 7 18 19,mF 21 2 20,mL 22 1 21,⟨(some 23),none,.app 2 16 [.int .i64 0,.int .i64 0] false (.t 17) (.t 22)⟩,mF 24 2 5,mS 1 24 23]) (.reg [mV 25 3,mG 26 7 5,⟨(some 27),none,.bsl 7 1 [.int .i64 0,.str ⟨#[]⟩,.nils,.int .i64 0,.int .i64 0,.int .i64 0,.int .i64 0] [(0,.t 26)]⟩,⟨(some 28),none,.app 7 80 [.int .i64 0,.str ⟨#[]⟩,.nils,.int .i64 0,.int .i64 0,.int .i64 0,.int .i64 0] false (.t 25) (.t 27)⟩,mV 3 28])))) (.reg [mV 11 4,mI 12 .add 11 1,mV 4 12])))))) (.seq (.reg [mV 29 3,mV 2 29]) .ret)))
def wF:List RS:=[.t 2]
def uM(t0 t3 t4:AV)(loc:List (List AV))(h:AH):St:=⟨[t0,.any,.any,t3,t4,.any,.any,.any,.any,.any,.any,.any,.any,.any,.any,.any,.any,.any,.any,.any,.any,.any,.any,.any,.any,.any,.any,.any,.any,.any],loc,h⟩
theorem Ta(hw:TC Tryz.prog Θ Γ Hp (aW wF K) ⟨[a0,u,u,u,u,u,u,u,u,u,u,u,u,u,u,u,u,u,u,u,u,u,u,u,u,u,u,u,u,u],[],h⟩):T Tryz.prog Γ Fn.OU [a0] h K:=
  TB Tryz.func84 (aG Tryz.f84) hw
def IQ:C:=.seq (.reg [mA 1 0,⟨(some 2),none,.alloc [.int .i64 0,.int .i64 0,.nils,.int .i64 0,.int .i64 0,.int .i64 0,.nils,.nils,.int .i64 0,.int .i64 0,.int .i64 0,.int .i64 0]⟩]) (.seq (.reg [mG 4 12 1,⟨(some 3),none,.alloc [.int .i64 0,.int .i64 0,.nils,.int .i64 0,.int .i64 0,.int .i64 0,.nils,.nils,.int .i64 0,.int .i64 0,.int .i64 0,.int .i64 0]⟩,mS 12 3 4]) (.seq (.reg [⟨(some 5),none,.bsl 2 0 [.int .i64 0,.int .i64 0] []⟩,mF 6 2 1,mL 7 1 6,⟨(some 8),none,.app 2 16 [.int .i64 0,.int .i64 0] false (.t 5) (.t 7)⟩,mF 9 2 3,mS 1 9 8]) (.seq (.reg [mF 10 6 1,mL 11 1 10,mC 12 Fn.OU [.t 11],mF 13 6 3,mS 1 13 12]) (.seq (.reg [⟨(some 14),none,.bsl 2 0 [.int .i64 0,.int .i64 0] []⟩,mF 15 7 1,mL 16 1 15,⟨(some 17),none,.app 2 16 [.int .i64 0,.int .i64 0] false (.t 14) (.t 16)⟩,mF 18 7 3,mS 1 18 17]) (.seq (.reg [mG 19 12 3,mS 12 2 19]) .ret)))))
def Cl:List RS:=[.cell 2 12 true]
theorem QL(hw:TC Tryz.prog Θ Γ IQ (aW Cl K) ⟨[a0,u,u,u,u,u,u,u,u,u,u,u,u,u,u,u,u,u,u,u],[],h⟩):T Tryz.prog Γ Fn.Lj [a0] h K:=
  TB Tryz.func85 (aG Tryz.f85) hw
def E9:C:=.seq (.reg [mA 1 0,⟨(some 2),none,.alloc [.int .i64 0,.bool false,.nils,.int .i64 0,.nils,.int .i64 0,.nils]⟩]) (.seq (.reg [mG 4 7 1,⟨(some 3),none,.alloc [.int .i64 0,.bool false,.nils,.int .i64 0,.nils,.int .i64 0,.nils]⟩,mS 7 3 4]) (.seq (.reg [⟨(some 5),none,.bsl 3 0 [.int .i64 0,.int .i64 0,.int .i64 0] []⟩,mF 6 2 1,mL 7 1 6,⟨(some 8),none,.app 3 24 [.int .i64 0,.int .i64 0,.int .i64 0] false (.t 5) (.t 7)⟩,mF 9 2 3,mS 1 9 8]) (.seq (.reg [⟨(some 10),none,.bsl 2 0 [.int .i64 0,.int .i64 0] []⟩,mF 11 4 1,mL 12 1 11,⟨(some 13),none,.app 2 16 [.int .i64 0,.int .i64 0] false (.t 10) (.t 12)⟩,mF 14 4 3,mS 1 14 13]) (.seq (.reg [⟨(some 15),none,.bsl 2 0 [.int .i64 0,.int .i64 0] []⟩,mF 16 6 1,mL 17 1 16,⟨(some 18),none,.app 2 16 [.int .i64 0,.int .i64 0] false (.t 15) (.t 17)⟩,mF 19 6 3,mS 1 19 18]) (.seq (.reg [mG 20 7 3,mS 7 2 20]) .ret)))))
def EH:List RS:=[.cell 2 7 true]
theorem NK(hw:TC Tryz.prog Θ Γ E9 (aW EH K) ⟨[a0,u,u,u,u,u,u,u,u,u,u,u,u,u,u,u,u,u,u,u,u],[],h⟩):T Tryz.prog Γ Fn.U1 [a0] h K:=
  TB Tryz.func86 (aG Tryz.f86) hw
def IG:C:=.seq (.reg [mA 1 0,⟨(some 2),none,.alloc [.int .i64 0,.int .i64 0,.int .i64 0,.int .i64 0,.str ⟨#[]⟩,.nils,.int .i64 0,.int .i64 0,.int .i64 0,.int .i64 0,.int .i64 0,.int .i64 0]⟩]) (.seq (.reg [mG 4 12 1,⟨(some 3),none,.alloc [.int .i64 0,.int .i64 0,.int .i64 0,.int .i64 0,.str ⟨#[]⟩,.nils,.int .i64 0,.int .i64 0,.int .i64 0,.int .i64 0,.int .i64 0,.int .i64 0]⟩,mS 12 3 4]) (.seq (.reg [⟨(some 5),none,.bsl 2 0 [.int .i64 0,.int .i64 0] []⟩,mF 6 5 1,mL 7 1 6,⟨(some 8),none,.app 2 16 [.int .i64 0,.int .i64 0] false (.t 5) (.t 7)⟩,mF 9 5 3,mS 1 9 8]) (.seq (.reg [mG 10 12 3,mS 12 2 10]) .ret)))
def FR:List RS:=[.cell 2 12 true]
theorem P6(hw:TC Tryz.prog Θ Γ IG (aW FR K) ⟨[a0,u,u,u,u,u,u,u,u,u,u],[],h⟩):T Tryz.prog Γ Fn.UX [a0] h K:=
  TB Tryz.func87 (aG Tryz.f87) hw
def JA:C:=.seq (.reg [⟨(some 4),none,.mov (.c (.nils))⟩]) (.seq (.reg [⟨(some 8),none,.bsl 1 0 [.str ⟨#[]⟩] []⟩,mV 5 8]) (.seq (.reg [mK 6 0]) (.seq (.seq (.reg [mK 7 0]) (.block 0 (.loop (.seq (.seq (.reg [mV 9 7,mV 10 0,⟨(some 11),none,.len true (.t 10)⟩,mB 12 .leq 9 11]) (.cond (.t 12) .skip (.exit 0))) (.seq (.block 1 (.seq (.reg [mV 15 7,mV 16 0,⟨(some 17),none,.len true (.t 16)⟩,mB 18 .eql 15 17,mV 19 18,⟨(some 20),(some (4,false)),.mov (.t 0)⟩,⟨(some 21),(some (4,false)),.mov (.t 7)⟩,⟨(some 22),(some (4,false)),.idxstr (.t 20) (.t 21)⟩,⟨(some 23),(some (4,false)),.mov (.t 1)⟩,⟨(some 24),(some (4,false)),.bin .eql (.num) (.t 22) (.t 23)⟩,⟨(some 25),none,.pick (.t 19) (.c (.bool true)) (.t 24)⟩]) (.cond (.t 25) (.seq (.reg [mV 26 5,mV 27 0,mV 28 6,mV 29 7,⟨(some 30),none,.slice .str (.t 27) (some (.t 28)) (some (.t 29)) none⟩,⟨(some 31),none,.bsl 1 1 [.str ⟨#[]⟩] [(0,.t 30)]⟩,⟨(some 32),none,.app 1 16 [.str ⟨#[]⟩] false (.t 26) (.t 31)⟩,mV 5 32]) (.reg [mV 33 7,mI 34 .add 33 1,mV 6 34])) .skip))) (.reg [mV 13 7,mI 14 .add 13 1,mV 7 14])))))) (.seq (.reg [mV 35 5,mV 4 35]) .ret))))
def o9:List RS:=[.t 4]
def mw(t0 t1 t5 t6 t7:AV)(loc:List (List AV))(h:AH):St:=⟨[t0,t1,.any,.any,.any,t5,t6,t7,.any,.any,.any,.any,.any,.any,.any,.any,.any,.any,.any,.any,.any,.any,.any,.any,.any,.any,.any,.any,.any,.any,.any,.any,.any,.any,.any,.any],loc,h⟩
theorem No(hw:TC Tryz.prog Θ Γ JA (aW o9 K) ⟨[a0,a1,u,u,u,u,u,u,u,u,u,u,u,u,u,u,u,u,u,u,u,u,u,u,u,u,u,u,u,u,u,u,u,u,u,u],[],h⟩):T Tryz.prog Γ Fn.UE [a0,a1] h K:=
  TB Tryz.func88 (aG Tryz.f88) hw
def sZ:List O:=[mV 40 0,mV 41 6,mI 42 .sub 41 1,mV 43 0,mV 44 6,mI 45 .sub 44 1,mX 46 2 43 45,mF 47 1 46,mL 48 1 47,mV 49 1,⟨(some 50),none,.slice .str (.t 49) (some (.c (.int .i64 7))) none none⟩,⟨(some 51),none,.build [.str ⟨#[]⟩,.nils] [(0,1,.t 50)]⟩,⟨(some 52),none,.bsl 2 1 [.str ⟨#[]⟩,.nils] [(0,.t 51)]⟩,⟨(some 53),none,.app 2 40 [.str ⟨#[]⟩,.nils] false (.t 48) (.t 52)⟩,mX 54 2 40 42,mF 55 1 54,mS 1 55 53]
def sA:List (List Nat):=[[],[],[1],[],[],[4],[3,5],[6],[7],[],[9],[10],[11],[8,12],[0,2,0,1,2,3,4,5,6,7,8,9,10,11,12,13],[14,0,1,2,3,4,5,6,7,8,9,10,11,12,13],[15,13,13,0,1,2,3,4,5,6,7,8,9,10,11,12,13]]
theorem je(gl:Gl)(Q:AE→St→Prop)(s:St):aw Tryz.prog Θ Γ gl (.regD sZ sA) Q s=bV Tryz.prog Γ gl [mV 40 0,mV 41 6,mI 42 .sub 41 1,mV 43 0,mV 44 6,mI 45 .sub 44 1,mX 46 2 43 45,mF 47 1 46,mL 48 1 47,mV 49 1,⟨(some 50),none,.slice .str (.t 49) (some (.c (.int .i64 7))) none none⟩,⟨(some 51),none,.build [.str ⟨#[]⟩,.nils] [(0,1,.t 50)]⟩,⟨(some 52),none,.bsl 2 1 [.str ⟨#[]⟩,.nils] [(0,.t 51)]⟩,⟨(some 53),none,.app 2 40 [.str ⟨#[]⟩,.nils] false (.t 48) (.t 52)⟩,mX 54 2 40 42,mF 55 1 54,mS 1 55 53] (Q .normal) 17 (.q 0 (.q 1 (.q 2 (.q 3 (.q 4 (.q 5 (.q 6 (.q 7 (.q 8 (.q 9 (.q 10 (.q 11 (.all [(12,.q 13 (.q 14 (.q 15 (.q 16 (.done)))))]))))))))))))) s:=eX rfl (by kernel_rfl) gl Q s
def sj:List O:=[mV 87 0,mV 88 6,mI 89 .sub 88 1,mX 90 2 87 89,mF 91 1 90,mL 92 1 91,mV 93 9,mV 94 0,mV 95 6,mI 96 .sub 95 1,mX 97 2 94 96,mF 98 1 97,mL 99 1 98,mV 100 9,mX 101 2 99 100,mF 102 1 101,mL 103 1 102,mG 104 6 7,⟨(some 105),none,.bsl 6 1 [.int .i64 0,.int .i64 0,.int .i64 0,.int .i64 0,.int .i64 0,.str ⟨#[]⟩] [(0,.t 104)]⟩,⟨(some 106),none,.app 6 56 [.int .i64 0,.int .i64 0,.int .i64 0,.int .i64 0,.int .i64 0,.str ⟨#[]⟩] false (.t 103) (.t 105)⟩,mX 107 2 92 93,mF 108 1 107,mS 1 108 106]
def sV:List (List Nat):=[[],[],[1],[0,2],[3],[4],[],[],[],[8],[7,9],[10],[11],[],[12,13],[14],[15],[],[17],[16,18],[5,6,0,1,2,3,4,5,6,7,8,9,10,11,12,13,14,15,16,17,18,19],[20,0,1,2,3,4,5,6,7,8,9,10,11,12,13,14,15,16,17,18,19],[21,19,19,0,1,2,3,4,5,6,7,8,9,10,11,12,13,14,15,16,17,18,19]]
theorem iS(gl:Gl)(Q:AE→St→Prop)(s:St):aw Tryz.prog Θ Γ gl (.regD sj sV) Q s=bV Tryz.prog Γ gl [mV 87 0,mV 88 6,mI 89 .sub 88 1,mX 90 2 87 89,mF 91 1 90,mL 92 1 91,mV 93 9,mV 94 0,mV 95 6,mI 96 .sub 95 1,mX 97 2 94 96,mF 98 1 97,mL 99 1 98,mV 100 9,mX 101 2 99 100,mF 102 1 101,mL 103 1 102,mG 104 6 7,⟨(some 105),none,.bsl 6 1 [.int .i64 0,.int .i64 0,.int .i64 0,.int .i64 0,.int .i64 0,.str ⟨#[]⟩] [(0,.t 104)]⟩,⟨(some 106),none,.app 6 56 [.int .i64 0,.int .i64 0,.int .i64 0,.int .i64 0,.int .i64 0,.str ⟨#[]⟩] false (.t 103) (.t 105)⟩,mX 107 2 92 93,mF 108 1 107,mS 1 108 106] (Q .normal) 23 (.q 0 (.q 1 (.q 2 (.q 3 (.q 4 (.q 5 (.q 6 (.q 7 (.q 8 (.q 9 (.q 10 (.q 11 (.q 12 (.q 13 (.q 14 (.q 15 (.q 16 (.q 17 (.all [(18,.st 19 [91] (.q 20 (.q 21 (.q 22 (.done)))))]))))))))))))))))))) s:=eX rfl (by kernel_rfl) gl Q s
def yU:C:=.seq (.reg [⟨(some 4),none,.mov (.c (.nils))⟩,mT 5 false]) (.seq (.reg [mV 10 0,mN 11 10,mV 6 11]) (.seq (.block 0 (.seq (.reg [mV 13 1,⟨(some 14),none,.len true (.t 13)⟩,mI 15 .gtr 14 7,mV 16 15,⟨(some 17),(some (3,true)),.mov (.t 1)⟩,⟨(some 18),(some (3,true)),.slice .str (.t 17) none (some (.c (.int .i64 7))) none⟩,⟨(some 19),(some (3,true)),.bin .eql (.num) (.t 18) (.c (.str ⟨#[115,99,114,105,112,116,32]⟩))⟩,⟨(some 20),none,.pick (.t 16) (.t 19) (.c (.bool false))⟩,mV 12 20]) (.cond (.t 12) (.seq (.reg [mV 21 0,mV 22 1,⟨(some 23),none,.slice .str (.t 22) (some (.c (.int .i64 7))) none none⟩,⟨(some 24),none,.build [.str ⟨#[]⟩,.nils] [(0,1,.t 23)]⟩,⟨(some 25),none,.bsl 2 1 [.str ⟨#[]⟩,.nils] [(0,.t 24)]⟩,⟨(some 26),none,.app 2 40 [.str ⟨#[]⟩,.nils] false (.t 21) (.t 25)⟩,mV 4 26,mT 5 true]) .ret) (.seq (.reg [mV 28 6,mI 29 .gtr 28 0,mV 30 29,⟨(some 31),(some (2,true)),.mov (.t 1)⟩,⟨(some 32),(some (2,true)),.len true (.t 31)⟩,⟨(some 33),(some (2,true)),.bin .gtr (.num) (.t 32) (.c (.int .i64 7))⟩,⟨(some 34),none,.pick (.t 30) (.t 33) (.c (.bool false))⟩,mV 35 34,⟨(some 36),(some (7,true)),.mov (.t 1)⟩,⟨(some 37),(some (7,true)),.slice .str (.t 36) none (some (.c (.int .i64 7))) none⟩,⟨(some 38),(some (7,true)),.bin .eql (.num) (.t 37) (.c (.str ⟨#[109,101,116,104,111,100,32]⟩))⟩,⟨(some 39),none,.pick (.t 35) (.t 38) (.c (.bool false))⟩,mV 27 39]) (.cond (.t 27) (.seq (.regD sZ sA) (.seq (.reg [mV 56 0,mV 4 56,mT 5 true]) .ret)) .skip))))) (.seq (.reg [mV 58 1,mC 59 Fn.Wt [.t 58],mV 57 59,⟨(some 60),none,.extr (.t 57) 0⟩,⟨(some 61),none,.extr (.t 57) 1⟩,⟨(some 7),none,.alloc [.int .i64 0,.int .i64 0,.int .i64 0,.int .i64 0,.int .i64 0,.str ⟨#[]⟩]⟩,mS 6 7 60,mV 8 61]) (.seq (.seq (.reg [mV 62 8,mU 63 62,mV 64 63,⟨(some 65),(some (2,false)),.mov (.t 6)⟩,⟨(some 66),(some (2,false)),.bin .eql (.num) (.t 65) (.c (.int .i64 0))⟩,⟨(some 67),none,.pick (.t 64) (.c (.bool true)) (.t 66)⟩,mV 68 67,⟨(some 69),(some (6,false)),.mov (.t 0)⟩,⟨(some 70),(some (6,false)),.mov (.t 6)⟩,⟨(some 71),(some (6,false)),.bin .sub (.num) (.t 70) (.c (.int .i64 1))⟩,⟨(some 72),(some (6,false)),.idxs 2 (.t 69) (.t 71)⟩,⟨(some 73),(some (6,false)),.fld 1 (.t 72)⟩,⟨(some 74),(some (6,false)),.load 1 false (.t 73)⟩,⟨(some 75),(some (6,false)),.len false (.t 74)⟩,⟨(some 76),(some (6,false)),.bin .eql (.num) (.t 75) (.c (.int .i64 0))⟩,⟨(some 77),none,.pick (.t 68) (.c (.bool true)) (.t 76)⟩]) (.cond (.t 77) (.seq (.reg [mV 78 0,mV 4 78,mT 5 false]) .ret) .skip)) (.seq (.reg [mV 79 0,mV 80 6,mI 81 .sub 80 1,mX 82 2 79 81,mF 83 1 82,mL 84 1 83,mN 85 84,mI 86 .sub 85 1,mV 9 86]) (.seq (.regD sj sV) (.seq (.reg [mV 109 0,mV 4 109,mT 5 true]) .ret)))))))
def qk:List RS:=[.t 4,.t 5]
theorem BR(hw:TC Tryz.prog Θ Γ yU (aW qk K) ⟨[a0,a1,u,u,u,u,u,u,u,u,u,u,u,u,u,u,u,u,u,u,u,u,u,u,u,u,u,u,u,u,u,u,u,u,u,u,u,u,u,u,u,u,u,u,u,u,u,u,u,u,u,u,u,u,u,u,u,u,u,u,u,u,u,u,u,u,u,u,u,u,u,u,u,u,u,u,u,u,u,u,u,u,u,u,u,u,u,u,u,u,u,u,u,u,u,u,u,u,u,u,u,u,u,u,u,u,u,u,u,u],[],h⟩):T Tryz.prog Γ Fn.Lb [a0,a1] h K:=
  TB Tryz.func89 (aG Tryz.f89) hw
def Fl:C:=.seq (.reg [mT 2 false]) (.seq (.seq (.reg [mK 3 0]) (.block 0 (.loop (.seq (.seq (.reg [mV 4 3,mV 5 0,mN 6 5,mB 7 .lss 4 6]) (.cond (.t 7) .skip (.exit 0))) (.seq (.block 1 (.seq (.reg [mV 10 0,mV 11 3,mX 12 2 10 11,mG 13 2 12,mC 14 Fn.Vy [.t 13],mU 15 14,mV 16 15,⟨(some 17),(some (6,false)),.mov (.t 0)⟩,⟨(some 18),(some (6,false)),.mov (.t 0)⟩,⟨(some 19),(some (6,false)),.mov (.t 3)⟩,⟨(some 20),(some (6,false)),.idxs 2 (.t 18) (.t 19)⟩,⟨(some 21),(some (6,false)),.fld 0 (.t 20)⟩,⟨(some 22),(some (6,false)),.load 1 false (.t 21)⟩,⟨(some 23),(some (6,false)),.call (.c (.fn Fn.Lk [] [])) [.t 17,.t 22]⟩,⟨(some 24),(some (6,false)),.mov (.t 3)⟩,⟨(some 25),(some (6,false)),.bin .neq (.num) (.t 23) (.t 24)⟩,⟨(some 26),none,.pick (.t 16) (.c (.bool true)) (.t 25)⟩]) (.cond (.t 26) (.seq (.reg [mT 2 false]) .ret) .skip))) (.reg [mV 8 3,mI 9 .add 8 1,mV 3 9])))))) (.seq (.reg [mV 27 0,mN 28 27,mI 29 .leq 28 6,mV 2 29]) .ret))
def o6:List RS:=[.t 2]
def um(t0 t3:AV)(loc:List (List AV))(h:AH):St:=⟨[t0,.any,.any,t3,.any,.any,.any,.any,.any,.any,.any,.any,.any,.any,.any,.any,.any,.any,.any,.any,.any,.any,.any,.any,.any,.any,.any,.any,.any,.any],loc,h⟩
theorem QU(hw:TC Tryz.prog Θ Γ Fl (aW o6 K) ⟨[a0,u,u,u,u,u,u,u,u,u,u,u,u,u,u,u,u,u,u,u,u,u,u,u,u,u,u,u,u,u],[],h⟩):T Tryz.prog Γ Fn.Vv [a0] h K:=
  TB Tryz.func90 (aG Tryz.f90) hw
def HT:C:=.seq (.reg [⟨(some 2),none,.mov (.c (.str ⟨#[]⟩))⟩]) (.seq (.seq (.reg [mV 5 0,mC 6 Fn.Vv [.t 5],mU 7 6]) (.cond (.t 7) (.seq (.reg [⟨(some 2),none,.mov (.c (.str ⟨#[]⟩))⟩]) .ret) .skip)) (.seq (.reg [⟨(some 3),none,.mov (.c (.str ⟨#[]⟩))⟩]) (.seq (.seq (.reg [mK 4 0]) (.block 0 (.loop (.seq (.seq (.reg [mV 8 4,mV 9 0,mN 10 9,mB 11 .lss 8 10]) (.cond (.t 11) .skip (.exit 0))) (.seq (.block 1 (.reg [mV 14 3,mV 15 0,mV 16 4,mX 17 2 15 16,mG 18 2 17,mC 19 Fn.WL [.t 18],mB 20 .add 14 19,mV 3 20])) (.reg [mV 12 4,mI 13 .add 12 1,mV 4 13])))))) (.seq (.reg [mV 21 3,mV 2 21]) .ret))))
def pr:List RS:=[.t 2]
def va(t0 t3 t4:AV)(loc:List (List AV))(h:AH):St:=⟨[t0,.any,.any,t3,t4,.any,.any,.any,.any,.any,.any,.any,.any,.any,.any,.any,.any,.any,.any,.any,.any,.any],loc,h⟩
theorem OL(hw:TC Tryz.prog Θ Γ HT (aW pr K) ⟨[a0,u,u,u,u,u,u,u,u,u,u,u,u,u,u,u,u,u,u,u,u,u],[],h⟩):T Tryz.prog Γ Fn.VR [a0] h K:=
  TB Tryz.func91 (aG Tryz.f91) hw
def OT:C:=.seq (.reg [⟨(some 2),none,.mov (.c (.nils))⟩]) (.seq (.reg [mV 5 0,mN 6 5,⟨(some 7),none,.mks 2 16 [.int .i64 0,.int .i64 0] (.t 6) (.t 6)⟩,mV 3 7]) (.seq (.seq (.reg [mK 4 0]) (.block 0 (.loop (.seq (.seq (.reg [mV 8 4,mV 9 0,mN 10 9,mB 11 .lss 8 10]) (.cond (.t 11) .skip (.exit 0))) (.seq (.block 1 (.reg [mV 14 3,mV 15 4,mV 16 0,mV 17 4,mX 18 2 16 17,mG 19 2 18,mC 20 Fn.LH [.t 19],mX 21 2 14 15,mS 2 21 20])) (.reg [mV 12 4,mI 13 .add 12 1,mV 4 13])))))) (.seq (.reg [mV 22 3,mV 2 22]) .ret)))
def Pf:List RS:=[.t 2]
def VX(t0 t3 t4:AV)(loc:List (List AV))(h:AH):St:=⟨[t0,.any,.any,t3,t4,.any,.any,.any,.any,.any,.any,.any,.any,.any,.any,.any,.any,.any,.any,.any,.any,.any,.any],loc,h⟩
theorem Se(hw:TC Tryz.prog Θ Γ OT (aW Pf K) ⟨[a0,u,u,u,u,u,u,u,u,u,u,u,u,u,u,u,u,u,u,u,u,u,u],[],h⟩):T Tryz.prog Γ Fn.U9 [a0] h K:=
  TB Tryz.func92 (aG Tryz.f92) hw
def Ft:C:=.seq (.reg [mA 1 0,⟨(some 2),none,.alloc [.int .i64 0,.int .i64 0]⟩]) (.seq (.reg [⟨(some 3),none,.alloc [.int .i64 0,.int .i64 0]⟩]) (.seq (.reg [mF 4 0 1,mL 5 1 4,mF 6 0 3,mS 1 6 5]) (.seq (.reg [mF 7 1 1,mL 8 1 7,mF 9 1 3,mS 1 9 8]) (.seq (.reg [mG 10 2 3,mS 2 2 10]) .ret))))
def EG:List RS:=[.cell 2 2 true]
theorem T8(hw:TC Tryz.prog Θ Γ Ft (aW EG K) ⟨[a0,u,u,u,u,u,u,u,u,u,u],[],h⟩):T Tryz.prog Γ Fn.LH [a0] h K:=
  TB Tryz.func93 (aG Tryz.f93) hw
def Uk:C:=.seq (.reg [⟨(some 2),none,.mov (.c (.nils))⟩]) (.seq (.reg [mV 5 0,mN 6 5,⟨(some 7),none,.mks 2 16 [.int .i64 0,.int .i64 0] (.t 6) (.t 6)⟩,mV 3 7]) (.seq (.seq (.reg [mK 4 0]) (.block 0 (.loop (.seq (.seq (.reg [mV 8 4,mV 9 0,mN 10 9,mB 11 .lss 8 10]) (.cond (.t 11) .skip (.exit 0))) (.seq (.block 1 (.reg [mV 14 3,mV 15 4,mV 16 0,mV 17 4,mX 18 2 16 17,mG 19 2 18,mC 20 Fn.U8 [.t 19],mX 21 2 14 15,mS 2 21 20])) (.reg [mV 12 4,mI 13 .add 12 1,mV 4 13])))))) (.seq (.reg [mV 22 3,mV 2 22]) .ret)))
def PB:List RS:=[.t 2]
def Xc(t0 t3 t4:AV)(loc:List (List AV))(h:AH):St:=⟨[t0,.any,.any,t3,t4,.any,.any,.any,.any,.any,.any,.any,.any,.any,.any,.any,.any,.any,.any,.any,.any,.any,.any],loc,h⟩
theorem Q4(hw:TC Tryz.prog Θ Γ Uk (aW PB K) ⟨[a0,u,u,u,u,u,u,u,u,u,u,u,u,u,u,u,u,u,u,u,u,u,u],[],h⟩):T Tryz.prog Γ Fn.W6 [a0] h K:=
  TB Tryz.func94 (aG Tryz.f94) hw
def GK:C:=.seq (.reg [mA 1 0,⟨(some 2),none,.alloc [.int .i64 0,.int .i64 0,.int .i64 0]⟩]) (.seq (.reg [⟨(some 3),none,.alloc [.int .i64 0,.int .i64 0,.int .i64 0]⟩]) (.seq (.reg [mF 4 0 1,mL 5 1 4,mF 6 0 3,mS 1 6 5]) (.seq (.reg [mF 7 1 1,mL 8 1 7,mF 9 1 3,mS 1 9 8]) (.seq (.reg [mF 10 2 1,mL 11 1 10,mF 12 2 3,mS 1 12 11]) (.seq (.reg [mG 13 3 3,mS 3 2 13]) .ret)))))
def JI:List RS:=[.cell 2 3 true]
theorem QD(hw:TC Tryz.prog Θ Γ GK (aW JI K) ⟨[a0,u,u,u,u,u,u,u,u,u,u,u,u,u],[],h⟩):T Tryz.prog Γ Fn.Uy [a0] h K:=
  TB Tryz.func95 (aG Tryz.f95) hw
def Ql:C:=.seq (.reg [⟨(some 2),none,.mov (.c (.nils))⟩]) (.seq (.reg [mV 5 0,mN 6 5,⟨(some 7),none,.mks 3 24 [.int .i64 0,.int .i64 0,.int .i64 0] (.t 6) (.t 6)⟩,mV 3 7]) (.seq (.seq (.reg [mK 4 0]) (.block 0 (.loop (.seq (.seq (.reg [mV 8 4,mV 9 0,mN 10 9,mB 11 .lss 8 10]) (.cond (.t 11) .skip (.exit 0))) (.seq (.block 1 (.reg [mV 14 3,mV 15 4,mV 16 0,mV 17 4,mX 18 3 16 17,mG 19 3 18,mC 20 Fn.UR [.t 19],mX 21 3 14 15,mS 3 21 20])) (.reg [mV 12 4,mI 13 .add 12 1,mV 4 13])))))) (.seq (.reg [mV 22 3,mV 2 22]) .ret)))
def Q9:List RS:=[.t 2]
def VV(t0 t3 t4:AV)(loc:List (List AV))(h:AH):St:=⟨[t0,.any,.any,t3,t4,.any,.any,.any,.any,.any,.any,.any,.any,.any,.any,.any,.any,.any,.any,.any,.any,.any,.any],loc,h⟩
theorem Sd(hw:TC Tryz.prog Θ Γ Ql (aW Q9 K) ⟨[a0,u,u,u,u,u,u,u,u,u,u,u,u,u,u,u,u,u,u,u,u,u,u],[],h⟩):T Tryz.prog Γ Fn.Ww [a0] h K:=
  TB Tryz.func96 (aG Tryz.f96) hw
def Ul:C:=.seq (.reg [⟨(some 2),none,.mov (.c (.nils))⟩]) (.seq (.reg [mV 5 0,mN 6 5,⟨(some 7),none,.mks 2 16 [.int .i64 0,.int .i64 0] (.t 6) (.t 6)⟩,mV 3 7]) (.seq (.seq (.reg [mK 4 0]) (.block 0 (.loop (.seq (.seq (.reg [mV 8 4,mV 9 0,mN 10 9,mB 11 .lss 8 10]) (.cond (.t 11) .skip (.exit 0))) (.seq (.block 1 (.reg [mV 14 3,mV 15 4,mV 16 0,mV 17 4,mX 18 2 16 17,mG 19 2 18,mC 20 Fn.Vs [.t 19],mX 21 2 14 15,mS 2 21 20])) (.reg [mV 12 4,mI 13 .add 12 1,mV 4 13])))))) (.seq (.reg [mV 22 3,mV 2 22]) .ret)))
def Tf:List RS:=[.t 2]
def WE(t0 t3 t4:AV)(loc:List (List AV))(h:AH):St:=⟨[t0,.any,.any,t3,t4,.any,.any,.any,.any,.any,.any,.any,.any,.any,.any,.any,.any,.any,.any,.any,.any,.any,.any],loc,h⟩
theorem T0(hw:TC Tryz.prog Θ Γ Ul (aW Tf K) ⟨[a0,u,u,u,u,u,u,u,u,u,u,u,u,u,u,u,u,u,u,u,u,u,u],[],h⟩):T Tryz.prog Γ Fn.Uz [a0] h K:=
  TB Tryz.func97 (aG Tryz.f97) hw
def Fv:C:=.seq (.reg [mA 1 0,⟨(some 2),none,.alloc [.int .i64 0,.int .i64 0,.int .i64 0,.int .i64 0,.str ⟨#[]⟩,.nils,.int .i64 0,.int .i64 0,.int .i64 0,.int .i64 0,.int .i64 0,.int .i64 0]⟩]) (.seq (.reg [⟨(some 3),none,.alloc [.int .i64 0,.int .i64 0,.int .i64 0,.int .i64 0,.str ⟨#[]⟩,.nils,.int .i64 0,.int .i64 0,.int .i64 0,.int .i64 0,.int .i64 0,.int .i64 0]⟩]) (.seq (.reg [mF 4 0 1,mL 5 1 4,mF 6 0 3,mS 1 6 5]) (.seq (.reg [mF 7 1 1,mL 8 1 7,mF 9 1 3,mS 1 9 8]) (.seq (.reg [mF 10 2 1,mL 11 1 10,mF 12 2 3,mS 1 12 11]) (.seq (.reg [mF 13 3 1,mL 14 1 13,mF 15 3 3,mS 1 15 14]) (.seq (.reg [mF 16 4 1,mL 17 1 16,mF 18 4 3,mS 1 18 17]) (.seq (.reg [mF 19 5 1,mL 20 1 19,mC 21 Fn.Wo [.t 20],mF 22 5 3,mS 1 22 21]) (.seq (.reg [mF 23 6 1,mG 24 2 23,mC 25 Fn.NX [.t 24],mF 26 6 3,mS 2 26 25]) (.seq (.reg [mF 27 8 1,mL 28 1 27,mF 29 8 3,mS 1 29 28]) (.seq (.reg [mF 30 9 1,mG 31 3 30,mC 32 Fn.Uy [.t 31],mF 33 9 3,mS 3 33 32]) (.seq (.reg [mG 34 12 3,mS 12 2 34]) .ret)))))))))))
def vW:List RS:=[.cell 2 12 true]
theorem NN(hw:TC Tryz.prog Θ Γ Fv (aW vW K) ⟨[a0,u,u,u,u,u,u,u,u,u,u,u,u,u,u,u,u,u,u,u,u,u,u,u,u,u,u,u,u,u,u,u,u,u,u],[],h⟩):T Tryz.prog Γ Fn.WJ [a0] h K:=
  TB Tryz.func98 (aG Tryz.f98) hw
def GZ:C:=.seq (.reg [⟨(some 2),none,.mov (.c (.nils))⟩]) (.seq (.reg [⟨(some 6),none,.bsl 7 0 [.int .i64 0,.str ⟨#[]⟩,.nils,.int .i64 0,.int .i64 0,.int .i64 0,.int .i64 0] []⟩,mV 3 6]) (.seq (.seq (.reg [mV 7 0,mN 8 7,mK 9 0]) (.block 0 (.loop (.seq (.reg [mB 10 .lss 9 8]) (.seq (.cond (.t 10) .skip (.exit 0)) (.seq (.block 1 (.seq (.reg [mX 11 7 7 9,mG 12 7 11,⟨(some 5),none,.alloc [.int .i64 0,.str ⟨#[]⟩,.nils,.int .i64 0,.int .i64 0,.int .i64 0,.int .i64 0]⟩,mS 7 5 12]) (.reg [mV 13 3,mG 14 7 5,mC 15 Fn.VH [.t 14],⟨(some 16),none,.bsl 7 1 [.int .i64 0,.str ⟨#[]⟩,.nils,.int .i64 0,.int .i64 0,.int .i64 0,.int .i64 0] [(0,.t 15)]⟩,⟨(some 17),none,.app 7 80 [.int .i64 0,.str ⟨#[]⟩,.nils,.int .i64 0,.int .i64 0,.int .i64 0,.int .i64 0] false (.t 13) (.t 16)⟩,mV 3 17]))) (.reg [mI 18 .add 9 1,mV 9 18]))))))) (.seq (.reg [mV 19 3,mV 2 19]) .ret)))
def qT:List RS:=[.t 2]
def tZ(t3 t7 t8 t9:AV)(loc:List (List AV))(h:AH):St:=⟨[.any,.any,.any,t3,.any,.any,.any,t7,t8,t9,.any,.any,.any,.any,.any,.any,.any,.any,.any,.any],loc,h⟩
theorem Tb(hw:TC Tryz.prog Θ Γ GZ (aW qT K) ⟨[a0,u,u,u,u,u,u,u,u,u,u,u,u,u,u,u,u,u,u,u],[],h⟩):T Tryz.prog Γ Fn.Li [a0] h K:=
  TB Tryz.func99 (aG Tryz.f99) hw
def tK:List O:=[mF 3 2 1,mL 4 1 3,mC 5 Fn.K8 [.t 4],mF 6 6 1,mL 7 1 6,mC 8 Fn.Li [.t 7],mF 9 7 1,mL 10 1 9,mC 11 Fn.U6 [.t 10],mF 12 2 1,mS 1 12 5,mF 13 6 1,mS 1 13 8,mF 14 7 1,mS 1 14 11]
def re:List (List Nat):=[[],[0],[1],[],[3],[4,2],[],[6],[7,5],[0,1,2,3,4,6,7],[9,2,8,0,1,2,3,4,6,7],[0,1,2,3,4,5,6,7,9,10],[11,5,10,0,1,2,3,4,5,6,7,9,10],[0,1,2,3,4,5,6,7,8,9,10,11,12],[13,8,12,0,1,2,3,4,5,6,7,8,9,10,11,12]]
theorem ly(gl:Gl)(Q:AE→St→Prop)(s:St):aw Tryz.prog Θ Γ gl (.regD tK re) Q s=bV Tryz.prog Γ gl [mF 3 2 1,mL 4 1 3,mC 5 Fn.K8 [.t 4],mF 6 6 1,mL 7 1 6,mC 8 Fn.Li [.t 7],mF 9 7 1,mL 10 1 9,mC 11 Fn.U6 [.t 10],mF 12 2 1,mS 1 12 5,mF 13 6 1,mS 1 13 8,mF 14 7 1,mS 1 14 11] (Q .normal) 15 (.q 0 (.q 1 (.q 3 (.q 4 (.q 6 (.q 7 (.st 2 [6,9] (.q 9 (.st 5 [9] (.q 8 (.q 10 (.q 11 (.q 12 (.q 13 (.q 14 (.done)))))))))))))))) s:=eX rfl (by kernel_rfl) gl Q s
def ED:C:=.seq (.reg [mA 1 0,⟨(some 2),none,.alloc [.int .i64 0,.int .i64 0,.nils,.int .i64 0,.int .i64 0,.int .i64 0,.nils,.nils,.int .i64 0,.int .i64 0,.int .i64 0,.int .i64 0]⟩]) (.seq (.regD tK re) (.seq (.reg [mG 15 12 1,mS 12 2 15]) .ret))
def wJ:List RS:=[.cell 2 12 true]
theorem Pt(hw:TC Tryz.prog Θ Γ ED (aW wJ K) ⟨[a0,u,u,u,u,u,u,u,u,u,u,u,u,u,u,u],[],h⟩):T Tryz.prog Γ Fn.Vn [a0] h K:=
  TB Tryz.func100 (aG Tryz.f100) hw
def tW:List O:=[mF 3 2 1,mL 4 1 3,mC 5 Fn.UQ [.t 4],mF 6 4 1,mL 7 1 6,mC 8 Fn.Ld [.t 7],mF 9 6 1,mL 10 1 9,mC 11 Fn.Ld [.t 10],mF 12 2 1,mS 1 12 5,mF 13 4 1,mS 1 13 8,mF 14 6 1,mS 1 14 11]
def rT:List (List Nat):=[[],[0],[1],[],[3],[4,2],[],[6],[7,5],[0,1,2,3,4,6,7],[9,2,8,0,1,2,3,4,6,7],[0,1,2,3,4,5,6,7,9,10],[11,5,10,0,1,2,3,4,5,6,7,9,10],[0,1,2,3,4,5,6,7,8,9,10,11,12],[13,8,12,0,1,2,3,4,5,6,7,8,9,10,11,12]]
theorem lP(gl:Gl)(Q:AE→St→Prop)(s:St):aw Tryz.prog Θ Γ gl (.regD tW rT) Q s=bV Tryz.prog Γ gl [mF 3 2 1,mL 4 1 3,mC 5 Fn.UQ [.t 4],mF 6 4 1,mL 7 1 6,mC 8 Fn.Ld [.t 7],mF 9 6 1,mL 10 1 9,mC 11 Fn.Ld [.t 10],mF 12 2 1,mS 1 12 5,mF 13 4 1,mS 1 13 8,mF 14 6 1,mS 1 14 11] (Q .normal) 15 (.q 0 (.q 1 (.q 3 (.q 4 (.q 6 (.q 7 (.st 2 [6,9] (.q 9 (.st 5 [9] (.q 8 (.q 10 (.q 11 (.q 12 (.q 13 (.q 14 (.done)))))))))))))))) s:=eX rfl (by kernel_rfl) gl Q s
def Hd:C:=.seq (.reg [mA 1 0,⟨(some 2),none,.alloc [.int .i64 0,.bool false,.nils,.int .i64 0,.nils,.int .i64 0,.nils]⟩]) (.seq (.regD tW rT) (.seq (.reg [mG 15 7 1,mS 7 2 15]) .ret))
def v8:List RS:=[.cell 2 7 true]
theorem Lu(hw:TC Tryz.prog Θ Γ Hd (aW v8 K) ⟨[a0,u,u,u,u,u,u,u,u,u,u,u,u,u,u,u],[],h⟩):T Tryz.prog Γ Fn.Vh [a0] h K:=
  TB Tryz.func101 (aG Tryz.f101) hw
def IS:C:=.seq (.reg [mA 1 0,⟨(some 2),none,.alloc [.int .i64 0,.int .i64 0,.int .i64 0,.int .i64 0,.str ⟨#[]⟩,.nils,.int .i64 0,.int .i64 0,.int .i64 0,.int .i64 0,.int .i64 0,.int .i64 0]⟩]) (.seq (.reg [mF 3 5 1,mL 4 1 3,mC 5 Fn.W7 [.t 4],mF 6 5 1,mS 1 6 5]) (.seq (.reg [mG 7 12 1,mS 12 2 7]) .ret))
def BT:List RS:=[.cell 2 12 true]
theorem P2(hw:TC Tryz.prog Θ Γ IS (aW BT K) ⟨[a0,u,u,u,u,u,u,u],[],h⟩):T Tryz.prog Γ Fn.Ve [a0] h K:=
  TB Tryz.func102 (aG Tryz.f102) hw
def JH:C:=.seq (.reg [mT 4 false]) (.seq (.reg [mV 5 0,mV 6 1,mC 7 Fn.Yy [.t 5,.t 6],mI 8 .geq 7 0,mV 4 8]) .ret)
def CU:List RS:=[.t 4]
theorem Q0(hw:TC Tryz.prog Θ Γ JH (aW CU K) ⟨[a0,a1,u,u,u,u,u,u,u],[],h⟩):T Tryz.prog Γ Fn.WM [a0,a1] h K:=
  TB Tryz.func103 (aG Tryz.f103) hw
def GQ:C:=.seq (.reg [mA 2 0,mT 3 false]) (.seq (.reg [mG 4 2 2,mL 5 1 1,mC 6 Fn.V0 [.t 4,.t 5],mU 7 6,mV 3 7]) .ret)
def CA:List RS:=[.t 3]
theorem SM(hw:TC Tryz.prog Θ Γ GQ (aW CA K) ⟨[a0,a1,u,u,u,u,u,u],[],h⟩):T Tryz.prog Γ Fn.VB [a0,a1] h K:=
  TB Tryz.func104 (aG Tryz.f104) hw
def Ij:C:=.seq (.reg [mA 2 0,mT 4 false]) (.seq (.seq (.reg [mF 5 0 2,mL 6 1 5]) (.block 0 (.seq (.reg [mI 8 .eql 6 0,mV 7 8]) (.cond (.t 7) (.seq (.reg [mF 9 1 2,mL 10 1 9,mC 11 Fn.zt [.t 10,.c (.int .i64 0),.c (.int .i64 999999)],mV 4 11]) .ret) (.seq (.reg [mI 13 .eql 6 1,mV 12 13]) (.cond (.t 12) (.seq (.reg [mF 14 1 2,mL 15 1 14,mV 16 1,mI 17 .sub 16 1,mC 18 Fn.zt [.t 15,.c (.int .i64 0),.t 17],mV 4 18]) .ret) (.seq (.reg [mI 20 .eql 6 2,mV 19 20]) (.cond (.t 19) (.seq (.reg [mF 21 1 2,mL 22 1 21,mI 23 .eql 22 0,mV 4 23]) .ret) .skip)))))))) (.seq (.reg [mT 4 false]) .ret))
def sT:List RS:=[.t 4]
theorem LC(hw:TC Tryz.prog Θ Γ Ij (aW sT K) ⟨[a0,a1,u,u,u,u,u,u,u,u,u,u,u,u,u,u,u,u,u,u,u,u,u,u],[],h⟩):T Tryz.prog Γ Fn.V0 [a0,a1] h K:=
  TB Tryz.func105 (aG Tryz.f105) hw
def Mm:C:=.seq (.reg [⟨(some 2),none,.mov (.c (.nils))⟩]) (.seq (.seq (.reg [mV 3 0,⟨(some 4),none,.bin .eql (.nils) (.t 3) (.c (.nils))⟩]) (.cond (.t 4) (.seq (.reg [⟨(some 2),none,.mov (.c (.nils))⟩]) .ret) .skip)) (.seq (.reg [⟨(some 5),none,.bsl 2 0 [.int .i64 0,.int .i64 0] []⟩,mV 6 0,⟨(some 7),none,.app 2 16 [.int .i64 0,.int .i64 0] false (.t 5) (.t 6)⟩,mV 2 7]) .ret))
def Mo:List RS:=[.t 2]
theorem TZ(hw:TC Tryz.prog Θ Γ Mm (aW Mo K) ⟨[a0,u,u,u,u,u,u,u],[],h⟩):T Tryz.prog Γ Fn.K8 [a0] h K:=
  TB Tryz.func106 (aG Tryz.f106) hw
end Go.Proofs.YtdlbaonelfcahaaGreatDoor
