import Derived.Test.YtolciaflplefcaaGreatProg
import Derived.Test.YtolciaflplefcaaGreatAmG6
import Derived.Test.YtolciaflplefcaaGreatAmG8
import Derived.Test.YtolciaflplefcaaGreatAmG9
set_option linter.unusedVariables false
set_option linter.unusedSimpArgs false
open Go.Proofs.Tryz renaming prog→pQ
open List renaming toList_toArray→Aaa
open Nat renaming reduceBEq→Aab,reduceMul→Aac
namespace Go.Proofs.YtolciaflplefcaaGreat
open Go.AM
abbrev mV(d s:Nat):O:=⟨some d,none,.mov (.t s)⟩
abbrev mF(d k s:Nat):O:=⟨some d,none,.fld k (.t s)⟩
abbrev mL(d k s:Nat):O:=⟨some d,none,.load k false (.t s)⟩
abbrev mG(d k s:Nat):O:=⟨some d,none,.load k true (.t s)⟩
abbrev mX(d k s i:Nat):O:=⟨some d,none,.idxs k (.t s) (.t i)⟩
abbrev mS(k s i:Nat):O:=⟨none,none,.store k (.t s) (.t i)⟩
abbrev mC(d:Nat)(f:FuncId)(l:List X):O:=⟨some d,none,.call (.c (.fn f [] [])) l⟩
abbrev mB(d:Nat)(o:Go.BinOp)(s i:Nat):O:=⟨some d,none,.bin o .num (.t s) (.t i)⟩
abbrev mI(d:Nat)(o:Go.BinOp)(s:Nat)(k:Int):O:=⟨some d,none,.bin o .num (.t s) (.c (.int .i64 k))⟩
abbrev mK(d:Nat)(k:Int):O:=⟨some d,none,.mov (.c (.int .i64 k))⟩
abbrev mT(d:Nat)(k:Bool):O:=⟨some d,none,.mov (.c (.bool k))⟩
abbrev mN(d s:Nat):O:=⟨some d,none,.len false (.t s)⟩
abbrev mA(d s:Nat):O:=⟨some d,none,.box (.t s)⟩
abbrev mU(d s:Nat):O:=⟨some d,none,.un .not (.t s)⟩
abbrev zz:AV:=.any
abbrev u8(l:List AV):List AV:=u::u::u::u::u::u::u::u::l
theorem u8v(l:List AV):u8 l=u::u::u::u::u::u::u::u::l:=rfl
namespace Fn
abbrev kbn:FuncId:=3
abbrev kbo:FuncId:=5
abbrev kbT:FuncId:=6
abbrev kaG:FuncId:=7
abbrev kaF:FuncId:=8
abbrev kah:FuncId:=9
abbrev kcj:FuncId:=10
abbrev kci:FuncId:=11
abbrev kam:FuncId:=12
abbrev kbQ:FuncId:=13
abbrev kbS:FuncId:=14
abbrev kaD:FuncId:=15
abbrev kcf:FuncId:=16
abbrev kaE:FuncId:=17
abbrev kch:FuncId:=18
abbrev kc3:FuncId:=31
abbrev kcY:FuncId:=32
abbrev kc4:FuncId:=33
abbrev kcC:FuncId:=34
abbrev kcq:FuncId:=35
abbrev kcR:FuncId:=36
abbrev kaM:FuncId:=37
abbrev ka2:FuncId:=38
abbrev ka1:FuncId:=39
abbrev kbz:FuncId:=40
abbrev kae:FuncId:=41
abbrev kag:FuncId:=42
abbrev kbA:FuncId:=43
abbrev kaf:FuncId:=44
abbrev kbB:FuncId:=45
abbrev kai:FuncId:=46
abbrev ka8:FuncId:=47
abbrev kcw:FuncId:=48
abbrev kcX:FuncId:=49
abbrev kcU:FuncId:=50
abbrev kaO:FuncId:=51
abbrev kcZ:FuncId:=52
abbrev kbR:FuncId:=53
abbrev kc2:FuncId:=54
abbrev kaY:FuncId:=55
abbrev kcW:FuncId:=56
abbrev ka0:FuncId:=57
abbrev kcT:FuncId:=58
abbrev kcb:FuncId:=72
abbrev kcn:FuncId:=75
abbrev kc6:FuncId:=76
abbrev kcx:FuncId:=77
abbrev kcQ:FuncId:=84
abbrev kct:FuncId:=85
abbrev kcr:FuncId:=86
abbrev kc5:FuncId:=87
abbrev kcv:FuncId:=88
abbrev ka7:FuncId:=89
abbrev kad:FuncId:=90
abbrev kau:FuncId:=91
abbrev kaz:FuncId:=92
abbrev kbf:FuncId:=93
abbrev kaK:FuncId:=94
abbrev kaR:FuncId:=95
abbrev U5:FuncId:=96
abbrev kaQ:FuncId:=97
abbrev kbG:FuncId:=98
abbrev kbD:FuncId:=99
abbrev kbC:FuncId:=100
abbrev ka9:FuncId:=101
abbrev kbE:FuncId:=102
abbrev kbF:FuncId:=103
abbrev kbH:FuncId:=104
abbrev kc8:FuncId:=105
abbrev kc7:FuncId:=106
abbrev kcp:FuncId:=107
abbrev kcs:FuncId:=108
abbrev kbY:FuncId:=109
abbrev JD:FuncId:=110
abbrev kcS:FuncId:=111
abbrev kcz:FuncId:=112
abbrev TL:FuncId:=113
abbrev kcV:FuncId:=114
abbrev VN:FuncId:=115
abbrev kc0:FuncId:=116
abbrev kbP:FuncId:=117
abbrev kaZ:FuncId:=118
abbrev kcM:FuncId:=119
abbrev kaT:FuncId:=120
abbrev kba:FuncId:=121
abbrev kab:FuncId:=122
abbrev kay:FuncId:=123
abbrev Uc:FuncId:=124
abbrev kcO:FuncId:=125
abbrev kbU:FuncId:=126
abbrev kcl:FuncId:=127
abbrev kax:FuncId:=133
abbrev kaC:FuncId:=134
abbrev xG:FuncId:=142
abbrev kb8:FuncId:=143
abbrev kcd:FuncId:=144
abbrev kb7:FuncId:=145
abbrev kca:FuncId:=146
abbrev kcK:FuncId:=155
abbrev kbX:FuncId:=156
abbrev Ts:FuncId:=157
abbrev kcL:FuncId:=165
abbrev kcN:FuncId:=166
abbrev kcg:FuncId:=167
abbrev kaI:FuncId:=168
abbrev kbs:FuncId:=169
abbrev kbp:FuncId:=170
abbrev kbq:FuncId:=171
abbrev kbr:FuncId:=172
abbrev kbt:FuncId:=173
abbrev kbl:FuncId:=174
abbrev kbh:FuncId:=175
abbrev kbw:FuncId:=176
abbrev kbg:FuncId:=177
abbrev kbk:FuncId:=178
abbrev kbj:FuncId:=179
abbrev kaj:FuncId:=180
abbrev kaa:FuncId:=181
abbrev kal:FuncId:=182
abbrev kak:FuncId:=183
abbrev Uh:FuncId:=184
abbrev Ug:FuncId:=185
abbrev kaJ:FuncId:=186
abbrev ka4:FuncId:=187
abbrev kb3:FuncId:=188
abbrev kcu:FuncId:=189
abbrev kbZ:FuncId:=190
abbrev kbV:FuncId:=191
abbrev Uk:FuncId:=192
abbrev kbW:FuncId:=193
abbrev El:FuncId:=194
abbrev kcc:FuncId:=195
abbrev kcB:FuncId:=196
abbrev kcJ:FuncId:=197
abbrev kbd:FuncId:=198
abbrev kbi:FuncId:=199
abbrev kbm:FuncId:=200
abbrev kaB:FuncId:=201
abbrev kaS:FuncId:=202
abbrev kaN:FuncId:=203
abbrev kco:FuncId:=204
abbrev kcP:FuncId:=205
abbrev kcA:FuncId:=206
abbrev Tv:FuncId:=207
abbrev kbu:FuncId:=208
abbrev kaU:FuncId:=209
abbrev kap:FuncId:=210
abbrev kbv:FuncId:=211
abbrev kbb:FuncId:=212
abbrev kbx:FuncId:=213
abbrev Uj:FuncId:=214
abbrev kas:FuncId:=215
abbrev kby:FuncId:=216
abbrev kav:FuncId:=223
abbrev kbN:FuncId:=235
abbrev kbM:FuncId:=236
abbrev kb9:FuncId:=237
abbrev kb6:FuncId:=238
abbrev kcy:FuncId:=242
abbrev kcm:FuncId:=243
abbrev kbL:FuncId:=244
abbrev kaA:FuncId:=245
abbrev Ue:FuncId:=246
abbrev kao:FuncId:=247
abbrev ka5:FuncId:=248
abbrev kb0:FuncId:=249
abbrev kb2:FuncId:=250
abbrev U7:FuncId:=251
abbrev Xm:FuncId:=252
abbrev ka3:FuncId:=253
abbrev kaP:FuncId:=254
abbrev kaL:FuncId:=255
abbrev Pp:FuncId:=256
abbrev kbJ:FuncId:=257
abbrev kaq:FuncId:=258
abbrev kbK:FuncId:=259
abbrev kbI:FuncId:=260
abbrev kat:FuncId:=261
abbrev kaw:FuncId:=266
abbrev Vp:FuncId:=283
abbrev kan:FuncId:=284
abbrev kbe:FuncId:=285
abbrev ka6:FuncId:=286
abbrev kar:FuncId:=287
abbrev kcE:FuncId:=288
end Fn
namespace Gn
end Gn
def DT:List (Nat×TI):=[
 (3,⟨.int .i64,1,8,[.int .i64 0],none⟩),
 (4,⟨.bool,1,1,[.bool false],none⟩),
 (5,⟨.int .u8,1,1,[.int .u8 0],none⟩),
 (9,⟨.str,1,16,[.str ⟨#[]⟩],none⟩),
 (22,⟨.slice 5,1,24,[.nils],none⟩),
 (24,⟨.slice 46,1,24,[.nils],none⟩),
 (25,⟨.slice 150,1,24,[.nils],none⟩),
 (26,⟨.slice 85,1,24,[.nils],none⟩),
 (27,⟨.slice 89,1,24,[.nils],none⟩),
 (29,⟨.strct [(0,3),(1,24),(2,25),(3,26),(4,27)],5,104,[.int .i64 0,.nils,.nils,.nils,.nils],none⟩),
 (30,⟨.slice 32,1,24,[.nils],none⟩),
 (32,⟨.strct [(0,3),(1,3)],2,16,[.int .i64 0,.int .i64 0],(some [.int .i64,.int .i64])⟩),
 (34,⟨.strct [(0,3),(1,3),(2,3)],3,24,[.int .i64 0,.int .i64 0,.int .i64 0],(some [.int .i64,.int .i64,.int .i64])⟩),
 (36,⟨.strct [(0,3),(1,3),(2,3),(3,3),(4,9),(5,30),(6,32),(8,3),(9,34)],12,120,[.int .i64 0,.int .i64 0,.int .i64 0,.int .i64 0,.str ⟨#[]⟩,.nils,.int .i64 0,.int .i64 0,.int .i64 0,.int .i64 0,.int .i64 0,.int .i64 0],none⟩),
 (42,⟨.slice 43,1,24,[.nils],none⟩),
 (43,⟨.strct [(0,3),(1,3)],2,16,[.int .i64 0,.int .i64 0],(some [.int .i64,.int .i64])⟩),
 (44,⟨.slice 147,1,24,[.nils],none⟩),
 (46,⟨.strct [(0,3),(1,3),(2,42),(3,3),(4,43),(6,25),(7,44),(8,3),(9,3),(10,3),(11,3)],12,144,[.int .i64 0,.int .i64 0,.nils,.int .i64 0,.int .i64 0,.int .i64 0,.nils,.nils,.int .i64 0,.int .i64 0,.int .i64 0,.int .i64 0],none⟩),
 (47,⟨.slice 107,1,24,[.nils],none⟩),
 (50,⟨.slice 29,1,24,[.nils],none⟩),
 (51,⟨.slice 180,1,24,[.nils],none⟩),
 (52,⟨.slice 113,1,24,[.nils],none⟩),
 (54,⟨.strct [(0,47),(1,50),(2,51),(3,52),(4,3)],5,104,[.nils,.nils,.nils,.nils,.int .i64 0],none⟩),
 (65,⟨.slice 34,1,24,[.nils],none⟩),
 (82,⟨.slice 154,1,24,[.nils],none⟩),
 (83,⟨.slice 134,1,24,[.nils],none⟩),
 (85,⟨.strct [(0,3),(1,4),(2,82),(3,3),(4,83),(5,3),(6,83)],7,104,[.int .i64 0,.bool false,.nils,.int .i64 0,.nils,.int .i64 0,.nils],none⟩),
 (89,⟨.strct [(0,3),(1,36)],13,128,[.int .i64 0,.int .i64 0,.int .i64 0,.int .i64 0,.int .i64 0,.str ⟨#[]⟩,.nils,.int .i64 0,.int .i64 0,.int .i64 0,.int .i64 0,.int .i64 0,.int .i64 0],none⟩),
 (94,⟨.ptr 29,1,8,[.nilp],none⟩),
 (95,⟨.ptr 46,1,8,[.nilp],none⟩),
 (99,⟨.slice 3,1,24,[.nils],none⟩),
 (105,⟨.slice 175,1,24,[.nils],none⟩),
 (107,⟨.strct [(0,9),(1,105)],2,40,[.str ⟨#[]⟩,.nils],none⟩),
 (113,⟨.strct [(0,3),(1,3),(2,3),(3,34)],6,48,[.int .i64 0,.int .i64 0,.int .i64 0,.int .i64 0,.int .i64 0,.int .i64 0],none⟩),
 (129,⟨.strct [(0,22),(1,3),(2,3)],3,40,[.nils,.int .i64 0,.int .i64 0],none⟩),
 (132,⟨.slice 9,1,24,[.nils],none⟩),
 (134,⟨.strct [(0,3),(1,3)],2,16,[.int .i64 0,.int .i64 0],(some [.int .i64,.int .i64])⟩),
 (147,⟨.strct [(0,3),(1,3)],2,16,[.int .i64 0,.int .i64 0],(some [.int .i64,.int .i64])⟩),
 (150,⟨.strct [(0,3),(1,9),(2,42),(3,3),(4,34)],7,80,[.int .i64 0,.str ⟨#[]⟩,.nils,.int .i64 0,.int .i64 0,.int .i64 0,.int .i64 0],none⟩),
 (154,⟨.strct [(0,3),(1,3),(2,3)],3,24,[.int .i64 0,.int .i64 0,.int .i64 0],(some [.int .i64,.int .i64,.int .i64])⟩),
 (164,⟨.ptr 85,1,8,[.nilp],none⟩),
 (173,⟨.slice 188,1,24,[.nils],none⟩),
 (175,⟨.strct [(0,9),(1,173)],2,40,[.str ⟨#[]⟩,.nils],none⟩),
 (178,⟨.slice 36,1,24,[.nils],none⟩),
 (180,⟨.strct [(0,3),(1,3),(2,178)],3,40,[.int .i64 0,.int .i64 0,.nils],none⟩),
 (188,⟨.strct [(0,3),(1,3),(2,3),(3,3),(4,3),(5,9)],6,56,[.int .i64 0,.int .i64 0,.int .i64 0,.int .i64 0,.int .i64 0,.str ⟨#[]⟩],(some [.int .i64,.int .i64,.int .i64,.int .i64,.int .i64,.str])⟩),
 (296,⟨.slice 297,1,24,[.nils],none⟩),
 (297,⟨.slice 4,1,24,[.nils],none⟩)]
def Θ:ub:=Kv DT
theorem aG:iO pQ Θ:=L9 (by kernel_rfl) (by kernel_rfl)
theorem mixed:pQ.follows .mixedOrders=true:=by kernel_rfl
theorem TB{Γ:bG}{f:FuncId}{fn:Func}{c:C}{rs:List RS}{args:List AV}{h:AH}{K:AV→AH→Prop}(hf:pQ.funcs[f]? = some fn)(code:Code)
 (hw:TC pQ Θ Γ c (aV rs K) ⟨args++List.replicate (fn.ntmps-args.length) (.tup []),[],h⟩)
 (hb:fn.body=some code:=by kernel_rfl) (hn:(fn.name == "runtime.NumGoroutine")=false:=by kernel_rfl) (hc:sN Θ code=some c:=by kernel_rfl) (hr:fn.results.toList.mapM (Mz Θ)=some rs:=by kernel_rfl):T pQ Γ f args h K:=
 I3 aG hf hb hn hc hr hw
variable {Γ:bG} {a0 a1 a2 a3 a4 a5 a6 a7:AV} {h:AH} {K:AV→AH→Prop}
noncomputable def RG(F:Func)(i:Nat):List O×List (List Nat):=(rgO DT F i,rgA F i)
noncomputable abbrev CF(F:Func)(R:Nat→List O×List (List Nat)){c:C}(h:zH (Zt DT R F) c:=by(conv=>{ arg 1;arg 3;whnf });dsimp only[Zt,Ga,cdO,cdI,cdK,qI,yY,DT,Aaa,KB,FH,Ll,cdP,Nb,Nj,cdQ,E3,cdL,Ui,cdV,Nk,MM,TI.isAgg,cond_true,cond_false,Aab,Aac,List.append];exact .rfl _):{ c:C // zH (Zt DT R F) c }:=⟨c,h⟩
noncomputable abbrev CR(F:Func)(i:Nat){l:List O}(h:zH (rgO DT F i) l:=by(conv=>{ arg 1;arg 2;whnf });dsimp only[rgO,Tk,uM,List.cons_append,List.nil_append,List.append_nil,List.getElem?_cons_zero,List.getElem?_cons_succ,Option.getD_some,Zt,Ga,cdO,cdI,cdK,qI,yY,DT,Aaa,KB,FH,Ll,cdP,Nb,Nj,cdQ,E3,cdL,Ui,cdV,Nk,MM,TI.isAgg,cond_true,cond_false,Aab,Aac,List.append];exact .rfl _):{ l:List O // zH (RG F i).1 l }:=⟨l,h⟩
theorem CFv{F:Func}{R:Nat→List O×List (List Nat)}{c:C}(h:zH (Zt DT R F) c):(CF F R h).1=c:=rfl
theorem CRv{F:Func}{i:Nat}{c:List O}(h:zH (rgO DT F i) c):(CR F i h).1=c:=rfl
def qs:List Nat→D→D
 | [],d=>d
 | k::l,d=>.q k (qs l d)
theorem YQ(d:D):qs [] d=d:=rfl
theorem Xz(k:Nat)(l:List Nat)(d:D):qs (k::l) d=.q k (qs l d):=rfl
abbrev QT(Γ:bG)(F:Func)(i:Nat)(os:List O)(n:Nat)(d:D):Prop:=∀(gl:Gl) (Q:AE→St→Prop) (s:St),aw pQ Θ Γ gl (.regD (RG F i).1 (RG F i).2) Q s=fy pQ Γ gl os (Q .normal) n d s
theorem qt{Γ:bG}{F:Func}{i:Nat}{os:List O}{n:Nat}{d:D}(ho:zH (RG F i).1 os)(hn:(RG F i).1.length=n:=by kernel_rfl)(h:sched (RG F i).1 (RG F i).2 n (List.replicate n false)=some d:=by kernel_rfl):QT Γ F i os n d:=fun gl Q s=>a_ddx ho hn h gl Q s
abbrev QQ(Γ:bG)(F:Func)(i:Nat)(os:List O):Prop:=∀(gl:Gl) (Q:AE→St→Prop) (s:St),aw pQ Θ Γ gl (.regD (RG F i).1 (RG F i).2) Q s=jS pQ Γ gl os os (Q .normal) s
theorem qq{Γ:bG}{F:Func}{i:Nat}{os:List O}(ho:zH (RG F i).1 os)(h:MG (RG F i).1 (RG F i).2=true:=by kernel_rfl):QQ Γ F i os:=fun gl Q s=>VV ho h gl Q s
theorem au:type_of% (And.intro EZ (And.intro @CFv (And.intro @CRv (And.intro @YQ (And.intro @Xz (And.intro @u8v @Z2)))))):=And.intro EZ (And.intro @CFv (And.intro @CRv (And.intro @YQ (And.intro @Xz (And.intro @u8v @Z2)))))
theorem VO.Cp{H:AH}{b:Nat}{cs:List AV}(hb:cF H b=some (0,cs))(e:List AV)(L:List (List AV))(off n:Nat):(St.mk e L H).cells (.gp b 0 off) n=sub cs off n:=b8 hb
theorem bN:type_of% (And.intro cK (And.intro qH (And.intro ER (And.intro EF EA)))):=And.intro cK (And.intro qH (And.intro ER (And.intro EF EA)))
theorem bC:type_of% (And.intro cK (And.intro qH (And.intro ER EF))):=And.intro cK (And.intro qH (And.intro ER EF))
theorem A3:type_of% (And.intro cK (And.intro qH EF)):=And.intro cK (And.intro qH EF)
theorem ot:type_of% (And.intro cK (And.intro qH (And.intro EF EA))):=And.intro cK (And.intro qH (And.intro EF EA))
noncomputable def c7:=CR Tryz.f3 0
theorem eL:QT Γ Tryz.f3 0 c7.1 27 (qs [0,1,2,3] (.st 4 [6] (qs [5,6,7,8,9,10,12] (.st 11 [6] (qs [13,14,15,16,17,18,19,20,21,22] (.st 23 [7] (qs [24,25,26] .done))))))):=qt c7.2
noncomputable def cV:=CR Tryz.f3 1
theorem eJ:QT Γ Tryz.f3 1 cV.1 21 (qs [0,1,2,4,5,6] (.st 3 [9,11] (qs [7,8,9,10,11,12,14,15,16] (.st 13 [12,14] (qs [17,18,19,20] .done))))):=qt cV.2
noncomputable def SJ:=CF Tryz.f3 (RG Tryz.f3)
def kC:List RS:=[.t 2]
def zD(t0 t3 t6 t8:AV)(loc:List (List AV))(h:AH):St:=⟨[t0,zz,zz,t3,zz,zz,t6,zz,t8,zz,zz,zz,zz,zz,zz,zz,zz,zz,zz,zz,zz,zz,zz,zz,zz,zz,zz,zz,zz,zz,zz,zz,zz,zz,zz,zz,zz,zz,zz,zz,zz,zz,zz,zz,zz,zz,zz,zz,zz,zz,zz,zz,zz,zz,zz,zz,zz,zz,zz,zz,zz,zz,zz,zz,zz,zz,zz,zz,zz,zz,zz,zz,zz,zz,zz,zz,zz,zz,zz,zz,zz,zz,zz,zz,zz,zz,zz,zz,zz,zz,zz,zz,zz,zz,zz,zz,zz,zz,zz,zz,zz,zz,zz,zz,zz,zz,zz,zz,zz,zz,zz,zz,zz,zz,zz,zz,zz],loc,h⟩
theorem Z5(hw:TC pQ Θ Γ SJ.1 (aV kC K) ⟨a0::u8 (u8 (u8 (u8 (u8 (u8 (u8 (u8 (u8 (u8 (u8 (u8 (u8 (u8 [u,u,u,u]))))))))))))),[],h⟩):T pQ Γ Fn.kbn [a0] h K:=
 TB Tryz.func3 (aH Tryz.f3) hw
noncomputable def SO:=CF Tryz.f5 R0
def Rj:List RS:=[.t 2]
theorem ZU(hw:TC pQ Θ Γ SO.1 (aV Rj K) ⟨[a0,u,u,u,u,u],[],h⟩):T pQ Γ Fn.kbo [a0] h K:=
 TB Tryz.func5 (aH Tryz.f5) hw
noncomputable def ly:=CR Tryz.f6 0
theorem pY:QT Γ Tryz.f6 0 ly.1 7 (qs [0,1,2] (.st 3 [6] (qs [4,5,6] .done))):=qt ly.2
noncomputable def ll:=CR Tryz.f6 1
theorem qh:QT Γ Tryz.f6 1 ll.1 6 (qs [0,1,2] (.st 3 [9] (qs [4,5] .done))):=qt ll.2
noncomputable def Sr:=CF Tryz.f6 (RG Tryz.f6)
def yW:List RS:=[.cell 2 5 true,.t 3,.cell 4 12 true]
theorem kbT_e(hw:TC pQ Θ Γ Sr.1 (aV yW K) ⟨a0::u8 (u8 (u8 [u,u,u,u,u,u])),[],h⟩):T pQ Γ Fn.kbT [a0] h K:=
 TB Tryz.func6 (aH Tryz.f6) hw
noncomputable def N6:=CF Tryz.f7 R0
def HG:List RS:=[.cell 6 5 true]
theorem UM(hw:TC pQ Θ Γ N6.1 (aV HG K) ⟨a0::a1::a2::u8 [u,u,u],[],h⟩):T pQ Γ Fn.kaG [a0,a1,a2] h K:=
 TB Tryz.func7 (aH Tryz.f7) hw
noncomputable def Qu:=CF Tryz.f8 R0
def IE:List RS:=[.cell 6 5 true]
theorem XW(hw:TC pQ Θ Γ Qu.1 (aV IE K) ⟨a0::a1::a2::u8 [u,u,u],[],h⟩):T pQ Γ Fn.kaF [a0,a1,a2] h K:=
 TB Tryz.func8 (aH Tryz.f8) hw
noncomputable def SC:=CF Tryz.f9 R0
def vx:List RS:=[.t 4]
theorem UR(hw:TC pQ Θ Γ SC.1 (aV vx K) ⟨a0::a1::u8 (u8 (u8 (u8 [u,u,u,u]))),[],h⟩):T pQ Γ Fn.kah [a0,a1] h K:=
 TB Tryz.func9 (aH Tryz.f9) hw
noncomputable def QS:=CF Tryz.f10 R0
def HT:List RS:=[.cell 6 5 true]
theorem Um(hw:TC pQ Θ Γ QS.1 (aV HT K) ⟨a0::a1::a2::u8 [u,u,u],[],h⟩):T pQ Γ Fn.kcj [a0,a1,a2] h K:=
 TB Tryz.func10 (aH Tryz.f10) hw
noncomputable def Sq:=CF Tryz.f11 R0
def Hz:List RS:=[.cell 6 5 true]
theorem Yt(hw:TC pQ Θ Γ Sq.1 (aV Hz K) ⟨a0::a1::a2::u8 [u,u,u],[],h⟩):T pQ Γ Fn.kci [a0,a1,a2] h K:=
 TB Tryz.func11 (aH Tryz.f11) hw
noncomputable def SU:=CF Tryz.f12 R0
def DC:List RS:=[.t 4]
theorem YC(hw:TC pQ Θ Γ SU.1 (aV DC K) ⟨a0::a1::u8 (u8 [u,u,u,u,u,u]),[],h⟩):T pQ Γ Fn.kam [a0,a1] h K:=
 TB Tryz.func12 (aH Tryz.f12) hw
noncomputable def PX:=CF Tryz.f13 R0
def yo:List RS:=[.cell 2 5 true,.t 3,.cell 4 12 true]
theorem ZE(hw:TC pQ Θ Γ PX.1 (aV yo K) ⟨a0::u8 (u8 (u8 [u,u,u,u])),[],h⟩):T pQ Γ Fn.kbQ [a0] h K:=
 TB Tryz.func13 (aH Tryz.f13) hw
noncomputable def kM:=CR Tryz.f14 0
theorem pB:QT Γ Tryz.f14 0 kM.1 6 (qs [0,1,2] (.st 3 [8] (qs [4,5] .done))):=qt kM.2
noncomputable def Rp:=CF Tryz.f14 (RG Tryz.f14)
def xg:List RS:=[.cell 2 5 true,.t 3,.cell 4 12 true]
theorem XD(hw:TC pQ Θ Γ Rp.1 (aV xg K) ⟨a0::u8 (u8 (u8 [u,u,u,u])),[],h⟩):T pQ Γ Fn.kbS [a0] h K:=
 TB Tryz.func14 (aH Tryz.f14) hw
noncomputable def QL:=CF Tryz.f15 R0
def IS:List RS:=[.cell 6 5 true]
theorem We(hw:TC pQ Θ Γ QL.1 (aV IS K) ⟨a0::a1::a2::u8 [u,u,u],[],h⟩):T pQ Γ Fn.kaD [a0,a1,a2] h K:=
 TB Tryz.func15 (aH Tryz.f15) hw
noncomputable def RK:=CF Tryz.f16 R0
def IG:List RS:=[.cell 6 5 true]
theorem V1(hw:TC pQ Θ Γ RK.1 (aV IG K) ⟨a0::a1::a2::u8 [u,u,u],[],h⟩):T pQ Γ Fn.kcf [a0,a1,a2] h K:=
 TB Tryz.func16 (aH Tryz.f16) hw
noncomputable def Rm:=CF Tryz.f17 R0
def Ig:List RS:=[.cell 6 5 true]
theorem Za(hw:TC pQ Θ Γ Rm.1 (aV Ig K) ⟨a0::a1::a2::u8 [u,u,u],[],h⟩):T pQ Γ Fn.kaE [a0,a1,a2] h K:=
 TB Tryz.func17 (aH Tryz.f17) hw
noncomputable def Qa:=CF Tryz.f18 R0
def HC:List RS:=[.cell 6 5 true]
theorem Wb(hw:TC pQ Θ Γ Qa.1 (aV HC K) ⟨a0::a1::a2::u8 [u,u,u],[],h⟩):T pQ Γ Fn.kch [a0,a1,a2] h K:=
 TB Tryz.func18 (aH Tryz.f18) hw
noncomputable def SX:=CF Tryz.f31 R0
def FL:List RS:=[.t 2]
def zN(t0 t3 t4:AV)(loc:List (List AV))(h:AH):St:=⟨[t0,zz,zz,t3,t4,zz,zz,zz,zz,zz,zz,zz,zz,zz,zz,zz,zz,zz,zz,zz,zz,zz,zz,zz,zz,zz,zz,zz,zz,zz,zz,zz],loc,h⟩
theorem XL(hw:TC pQ Θ Γ SX.1 (aV FL K) ⟨a0::u8 (u8 (u8 [u,u,u,u,u,u,u])),[],h⟩):T pQ Γ Fn.kc3 [a0] h K:=
 TB Tryz.func31 (aH Tryz.f31) hw
noncomputable def RW:=CF Tryz.f32 R0
def yO:List RS:=[.cell 2 5 true]
def G0(t0 t2 t3 t4:AV)(loc:List (List AV))(h:AH):St:=⟨[t0,zz,t2,t3,t4,zz,zz,zz,zz,zz,zz,zz,zz,zz,zz,zz,zz,zz,zz,zz,zz,zz,zz,zz,zz,zz],loc,h⟩
theorem YM(hw:TC pQ Θ Γ RW.1 (aV yO K) ⟨a0::u8 (u8 (u8 [u])),[],h⟩):T pQ Γ Fn.kcY [a0] h K:=
 TB Tryz.func32 (aH Tryz.f32) hw
noncomputable def Pq:=CF Tryz.f33 R0
def Kr:List RS:=[.t 4]
theorem Vb(hw:TC pQ Θ Γ Pq.1 (aV Kr K) ⟨[a0,a1,u,u,u,u,u,u,u],[],h⟩):T pQ Γ Fn.kc4 [a0,a1] h K:=
 TB Tryz.func33 (aH Tryz.f33) hw
noncomputable def QA:=CF Tryz.f34 R0
def Kn:List RS:=[.t 2]
theorem Zv(hw:TC pQ Θ Γ QA.1 (aV Kn K) ⟨[a0,u,u,u,u,u],[],h⟩):T pQ Γ Fn.kcC [a0] h K:=
 TB Tryz.func34 (aH Tryz.f34) hw
noncomputable def fZ:=CR Tryz.f35 0
theorem jn:QT Γ Tryz.f35 0 fZ.1 8 (qs [0,1,2] (.st 3 [21] (.all [(4,qs [5,6,7] .done)]))):=qt fZ.2
noncomputable def Qq:=CF Tryz.f35 (RG Tryz.f35)
def pD:List RS:=[.cell 2 12 true]
theorem kcq_e(hw:TC pQ Θ Γ Qq.1 (aV pD K) ⟨a0::u8 (u8 (u8 (u8 (u8 (u8 [u,u,u,u]))))),[],h⟩):T pQ Γ Fn.kcq [a0] h K:=
 TB Tryz.func35 (aH Tryz.f35) hw
noncomputable def gg:=CR Tryz.f36 0
theorem jj:QT Γ Tryz.f36 0 gg.1 13 (qs [0,1,2,3,4,5,6,7] (.st 8 [32,36] (qs [9,10,11,12] .done))):=qt gg.2
noncomputable def gb:=CR Tryz.f36 1
theorem jl:QT Γ Tryz.f36 1 gb.1 9 (qs [0,1,2,3,4,5,6,7,8] .done):=qt gb.2
noncomputable def N4:=CF Tryz.f36 (RG Tryz.f36)
def pF:List RS:=[.t 4,.cell 5 12 true]
theorem Yh(hw:TC pQ Θ Γ N4.1 (aV pF K) ⟨a0::a1::u8 (u8 (u8 (u8 (u8 (u8 (u8 [u])))))),[],h⟩):T pQ Γ Fn.kcR [a0,a1] h K:=
 TB Tryz.func36 (aH Tryz.f36) hw
noncomputable def hU:=CR Tryz.f37 0
theorem jG:QT Γ Tryz.f37 0 hU.1 8 (qs [0,1,2,3] (.all [(4,qs [5] (.all [(6,qs [7] .done)])),(6,.all [(4,qs [5,7] .done)])])):=qt hU.2
noncomputable def ia:=CR Tryz.f37 1
theorem jK:QT Γ Tryz.f37 1 ia.1 8 (qs [0,1,2] (.st 3 [23] (.all [(4,qs [5,6,7] .done)]))):=qt ia.2
noncomputable def hQ:=CR Tryz.f37 2
theorem jN:QT Γ Tryz.f37 2 hQ.1 8 (qs [0,1,2] (.st 3 [38] (.all [(4,qs [5,6,7] .done)]))):=qt hQ.2
noncomputable def ie:=CR Tryz.f37 3
theorem jM:QT Γ Tryz.f37 3 ie.1 12 (qs [0,1,2,3,4,5] (.st 6 [53,55] (qs [7] (.all [(8,qs [9,10,11] .done)])))):=qt ie.2
noncomputable def Ql:=CF Tryz.f37 (RG Tryz.f37)
def qA:List RS:=[.cell 2 5 true]
def EN(t1 t2 t3 t17 t18 t19:AV)(loc:List (List AV))(h:AH):St:=⟨[zz,t1,t2,t3,zz,zz,zz,zz,zz,zz,zz,zz,zz,zz,zz,zz,zz,t17,t18,t19,zz,zz,zz,zz,zz,zz,zz,zz,zz,zz,zz,zz,zz,zz,zz,zz,zz,zz,zz,zz,zz,zz,zz,zz,zz,zz,zz,zz,zz,zz,zz,zz,zz,zz,zz,zz,zz,zz,zz,zz,zz,zz,zz,zz,zz,zz],loc,h⟩
def Ey(t1 t2 t3 t32 t33 t34:AV)(loc:List (List AV))(h:AH):St:=⟨[zz,t1,t2,t3,zz,zz,zz,zz,zz,zz,zz,zz,zz,zz,zz,zz,zz,zz,zz,zz,zz,zz,zz,zz,zz,zz,zz,zz,zz,zz,zz,zz,t32,t33,t34,zz,zz,zz,zz,zz,zz,zz,zz,zz,zz,zz,zz,zz,zz,zz,zz,zz,zz,zz,zz,zz,zz,zz,zz,zz,zz,zz,zz,zz,zz,zz],loc,h⟩
def ED(t2 t3 t47 t48 t49:AV)(loc:List (List AV))(h:AH):St:=⟨[zz,zz,t2,t3,zz,zz,zz,zz,zz,zz,zz,zz,zz,zz,zz,zz,zz,zz,zz,zz,zz,zz,zz,zz,zz,zz,zz,zz,zz,zz,zz,zz,zz,zz,zz,zz,zz,zz,zz,zz,zz,zz,zz,zz,zz,zz,zz,t47,t48,t49,zz,zz,zz,zz,zz,zz,zz,zz,zz,zz,zz,zz,zz,zz,zz,zz],loc,h⟩
theorem ZD(hw:TC pQ Θ Γ Ql.1 (aV qA K) ⟨a0::u8 (u8 (u8 (u8 (u8 (u8 (u8 (u8 [u]))))))),[],h⟩):T pQ Γ Fn.kaM [a0] h K:=
 TB Tryz.func37 (aH Tryz.f37) hw
noncomputable def jd:=CR Tryz.f38 0
theorem kE:QT Γ Tryz.f38 0 jd.1 9 (qs [0,1,2,3,4] (.st 5 [8] (qs [6,7,8] .done))):=qt jd.2
noncomputable def OJ:=CF Tryz.f38 (RG Tryz.f38)
def su:List RS:=[]
theorem Ut(hw:TC pQ Θ Γ OJ.1 (aV su K) ⟨a0::a1::a2::u8 (u8 (u8 (u8 (u8 (u8 (u8 [u,u,u,u,u,u,u])))))),[],h⟩):T pQ Γ Fn.ka2 [a0,a1,a2] h K:=
 TB Tryz.func38 (aH Tryz.f38) hw
noncomputable def mW:=CR Tryz.f39 0
theorem rW:QT Γ Tryz.f39 0 mW.1 10 (qs [0,1,2,3,4,5,6,7,8,9] .done):=qt mW.2
noncomputable def S3:=CF Tryz.f39 (RG Tryz.f39)
def Ay:List RS:=[]
theorem YN(hw:TC pQ Θ Γ S3.1 (aV Ay K) ⟨a0::a1::a2::u8 (u8 (u8 (u8 [u]))),[],h⟩):T pQ Γ Fn.ka1 [a0,a1,a2] h K:=
 TB Tryz.func39 (aH Tryz.f39) hw
noncomputable def Yz:=CF Tryz.f40 R0
def Yc:List RS:=[.t 6]
def kbz_s0(t1 t2 t15 t16 t17:AV)(loc:List (List AV))(h:AH):St:=⟨[zz,t1,t2,zz,zz,zz,zz,zz,zz,zz,zz,zz,zz,zz,zz,t15,t16,t17,zz,zz,zz,zz,zz,zz,zz,zz,zz,zz,zz,zz,zz,zz],loc,h⟩
theorem UT(hw:TC pQ Θ Γ Yz.1 (aV Yc K) ⟨a0::a1::a2::u8 (u8 (u8 [u,u,u,u,u])),[],h⟩):T pQ Γ Fn.kbz [a0,a1,a2] h K:=
 TB Tryz.func40 (aH Tryz.f40) hw
noncomputable def SB:=CF Tryz.f41 R0
def qz:List RS:=[.t 4]
theorem Zx(hw:TC pQ Θ Γ SB.1 (aV qz K) ⟨a0::a1::u8 (u8 (u8 (u8 (u8 (u8 (u8 (u8 (u8 [u,u,u,u,u,u])))))))),[],h⟩):T pQ Γ Fn.kae [a0,a1] h K:=
 TB Tryz.func41 (aH Tryz.f41) hw
noncomputable def Ny:=CF Tryz.f42 R0
def LZ:List RS:=[.t 4]
theorem Wz(hw:TC pQ Θ Γ Ny.1 (aV LZ K) ⟨[a0,a1,u,u,u,u,u,u],[],h⟩):T pQ Γ Fn.kag [a0,a1] h K:=
 TB Tryz.func42 (aH Tryz.f42) hw
noncomputable def Uz:=CF Tryz.f43 R0
def Y9:List RS:=[.t 6]
def kbA_s0(t1 t2 t15 t16 t17:AV)(loc:List (List AV))(h:AH):St:=⟨[zz,t1,t2,zz,zz,zz,zz,zz,zz,zz,zz,zz,zz,zz,zz,t15,t16,t17,zz,zz,zz,zz,zz,zz,zz,zz,zz,zz,zz,zz,zz,zz],loc,h⟩
theorem WK(hw:TC pQ Θ Γ Uz.1 (aV Y9 K) ⟨a0::a1::a2::u8 (u8 (u8 [u,u,u,u,u])),[],h⟩):T pQ Γ Fn.kbA [a0,a1,a2] h K:=
 TB Tryz.func43 (aH Tryz.f43) hw
noncomputable def Oo:=CF Tryz.f44 R0
def uA:List RS:=[.t 4]
theorem Ze(hw:TC pQ Θ Γ Oo.1 (aV uA K) ⟨a0::a1::u8 (u8 (u8 (u8 (u8 (u8 [u,u]))))),[],h⟩):T pQ Γ Fn.kaf [a0,a1] h K:=
 TB Tryz.func44 (aH Tryz.f44) hw
noncomputable def kbB_c:=CF Tryz.f45 R0
def Uw:List RS:=[.t 6]
def kbB_s0(t1 t2 t15 t16 t17:AV)(loc:List (List AV))(h:AH):St:=⟨[zz,t1,t2,zz,zz,zz,zz,zz,zz,zz,zz,zz,zz,zz,zz,t15,t16,t17,zz,zz,zz,zz,zz,zz,zz,zz,zz,zz,zz,zz,zz,zz],loc,h⟩
theorem U0(hw:TC pQ Θ Γ kbB_c.1 (aV Uw K) ⟨a0::a1::a2::u8 (u8 (u8 [u,u,u,u,u])),[],h⟩):T pQ Γ Fn.kbB [a0,a1,a2] h K:=
 TB Tryz.func45 (aH Tryz.f45) hw
noncomputable def Ow:=CF Tryz.f46 R0
def FU:List RS:=[.t 4]
theorem kai_e(hw:TC pQ Θ Γ Ow.1 (aV FU K) ⟨a0::a1::u8 [u,u,u,u,u,u,u],[],h⟩):T pQ Γ Fn.kai [a0,a1] h K:=
 TB Tryz.func46 (aH Tryz.f46) hw
noncomputable def O6:=CF Tryz.f47 R0
def uw:List RS:=[.t 4]
theorem ka8_e(hw:TC pQ Θ Γ O6.1 (aV uw K) ⟨a0::a1::u8 (u8 (u8 (u8 (u8 (u8 (u8 (u8 []))))))),[],h⟩):T pQ Γ Fn.ka8 [a0,a1] h K:=
 TB Tryz.func47 (aH Tryz.f47) hw
noncomputable def ig:=CR Tryz.f48 0
theorem jC:QT Γ Tryz.f48 0 ig.1 8 (qs [0,1,2,3] (.all [(4,qs [5] (.all [(6,qs [7] .done)])),(6,.all [(4,qs [5,7] .done)])])):=qt ig.2
noncomputable def hO:=CR Tryz.f48 1
theorem jU:QT Γ Tryz.f48 1 hO.1 12 (qs [0,1,2,3,4,5,6] (.st 7 [20] (.all [(8,qs [9,10,11] .done)]))):=qt hO.2
noncomputable def hH:=CR Tryz.f48 2
theorem jI:QT Γ Tryz.f48 2 hH.1 12 (qs [0,1,2,3,4,5,6] (.st 7 [38] (.all [(8,qs [9,10,11] .done)]))):=qt hH.2
noncomputable def hJ:=CR Tryz.f48 3
theorem jQ:QT Γ Tryz.f48 3 hJ.1 20 (qs [0,1,2,3,4,5,6,7,8,9,10,11,12,13] (.st 14 [56,58,62] (qs [15] (.all [(16,qs [17,18,19] .done)])))):=qt hJ.2
noncomputable def P1:=CF Tryz.f48 (RG Tryz.f48)
def qw:List RS:=[.cell 2 5 true]
def D4(t1 t2 t3 t4:AV)(loc:List (List AV))(h:AH):St:=⟨[zz,t1,t2,t3,t4,zz,zz,zz,zz,zz,zz,zz,zz,zz,zz,zz,zz,zz,zz,zz,zz,zz,zz,zz,zz,zz,zz,zz,zz,zz,zz,zz,zz,zz,zz,zz,zz,zz,zz,zz,zz,zz,zz,zz,zz,zz,zz,zz,zz,zz,zz,zz,zz,zz,zz,zz,zz,zz,zz,zz,zz,zz,zz,zz,zz,zz,zz,zz,zz,zz,zz,zz,zz,zz,zz,zz],loc,h⟩
def Ex(t1 t2 t3 t5:AV)(loc:List (List AV))(h:AH):St:=⟨[zz,t1,t2,t3,zz,t5,zz,zz,zz,zz,zz,zz,zz,zz,zz,zz,zz,zz,zz,zz,zz,zz,zz,zz,zz,zz,zz,zz,zz,zz,zz,zz,zz,zz,zz,zz,zz,zz,zz,zz,zz,zz,zz,zz,zz,zz,zz,zz,zz,zz,zz,zz,zz,zz,zz,zz,zz,zz,zz,zz,zz,zz,zz,zz,zz,zz,zz,zz,zz,zz,zz,zz,zz,zz,zz,zz],loc,h⟩
def Er(t1 t2 t3 t6:AV)(loc:List (List AV))(h:AH):St:=⟨[zz,t1,t2,t3,zz,zz,t6,zz,zz,zz,zz,zz,zz,zz,zz,zz,zz,zz,zz,zz,zz,zz,zz,zz,zz,zz,zz,zz,zz,zz,zz,zz,zz,zz,zz,zz,zz,zz,zz,zz,zz,zz,zz,zz,zz,zz,zz,zz,zz,zz,zz,zz,zz,zz,zz,zz,zz,zz,zz,zz,zz,zz,zz,zz,zz,zz,zz,zz,zz,zz,zz,zz,zz,zz,zz,zz],loc,h⟩
theorem UG(hw:TC pQ Θ Γ P1.1 (aV qw K) ⟨a0::u8 (u8 (u8 (u8 (u8 (u8 (u8 (u8 (u8 [u,u,u])))))))),[],h⟩):T pQ Γ Fn.kcw [a0] h K:=
 TB Tryz.func48 (aH Tryz.f48) hw
noncomputable def iC:=CR Tryz.f49 0
theorem kj:QT Γ Tryz.f49 0 iC.1 9 (qs [0,1,2,3,4,5,6,7,8] .done):=qt iC.2
noncomputable def QO:=CF Tryz.f49 (RG Tryz.f49)
def rJ:List RS:=[]
theorem V5(hw:TC pQ Θ Γ QO.1 (aV rJ K) ⟨a0::a1::a2::u8 (u8 (u8 (u8 (u8 (u8 (u8 (u8 (u8 [u,u,u,u])))))))),[],h⟩):T pQ Γ Fn.kcX [a0,a1,a2] h K:=
 TB Tryz.func49 (aH Tryz.f49) hw
noncomputable def kP:=CR Tryz.f50 0
theorem oY:QT Γ Tryz.f50 0 kP.1 14 (qs [0,1,2,3,4,5,6,7,8,9,10,11,12,13] .done):=qt kP.2
noncomputable def O5:=CF Tryz.f50 (RG Tryz.f50)
def xl:List RS:=[]
theorem Z1(hw:TC pQ Θ Γ O5.1 (aV xl K) ⟨a0::a1::a2::u8 (u8 (u8 (u8 (u8 [u])))),[],h⟩):T pQ Γ Fn.kcU [a0,a1,a2] h K:=
 TB Tryz.func50 (aH Tryz.f50) hw
noncomputable def Kb:=CF Tryz.f51 R0
def Bb:List RS:=[.t 4]
theorem QR(hw:TC pQ Θ Γ Kb.1 (aV Bb K) ⟨a0::a1::u8 (u8 [u,u]),[],h⟩):T pQ Γ Fn.kaO [a0,a1] h K:=
 TB Tryz.func51 (aH Tryz.f51) hw
noncomputable def S2:=CF Tryz.f52 R0
def As:List RS:=[.t 4]
theorem VT(hw:TC pQ Θ Γ S2.1 (aV As K) ⟨a0::a1::u8 (u8 (u8 [u,u,u,u,u])),[],h⟩):T pQ Γ Fn.kcZ [a0,a1] h K:=
 TB Tryz.func52 (aH Tryz.f52) hw
noncomputable def SF:=CF Tryz.f53 R0
def Mv:List RS:=[.cell 2 5 true,.t 3,.cell 4 12 true]
theorem kbR_e(hw:TC pQ Θ Γ SF.1 (aV Mv K) ⟨a0::u8 [u],[],h⟩):T pQ Γ Fn.kbR [a0] h K:=
 TB Tryz.func53 (aH Tryz.f53) hw
noncomputable def RE:=CF Tryz.f54 R0
def Md:List RS:=[.t 4]
theorem UU(hw:TC pQ Θ Γ RE.1 (aV Md K) ⟨a0::a1::u8 [u,u],[],h⟩):T pQ Γ Fn.kc2 [a0,a1] h K:=
 TB Tryz.func54 (aH Tryz.f54) hw
noncomputable def OE:=CF Tryz.f55 R0
def xZ:List RS:=[]
theorem kaY_e(hw:TC pQ Θ Γ OE.1 (aV xZ K) ⟨a0::a1::a2::u8 (u8 (u8 [u,u,u])),[],h⟩):T pQ Γ Fn.kaY [a0,a1,a2] h K:=
 TB Tryz.func55 (aH Tryz.f55) hw
noncomputable def Q5:=CF Tryz.f56 R0
def yH:List RS:=[]
theorem X5(hw:TC pQ Θ Γ Q5.1 (aV yH K) ⟨a0::a1::a2::u8 (u8 (u8 [u,u,u])),[],h⟩):T pQ Γ Fn.kcW [a0,a1,a2] h K:=
 TB Tryz.func56 (aH Tryz.f56) hw
noncomputable def iY:=CR Tryz.f57 0
theorem kF:QT Γ Tryz.f57 0 iY.1 7 (qs [0,1,2,3,4,5,6] .done):=qt iY.2
noncomputable def iZ:=CR Tryz.f57 1
theorem kG:QT Γ Tryz.f57 1 iZ.1 11 (qs [0,1,2,3,4,5,6,7,8,9,10] .done):=qt iZ.2
noncomputable def Rz:=CF Tryz.f57 (RG Tryz.f57)
def ss:List RS:=[]
theorem X1(hw:TC pQ Θ Γ Rz.1 (aV ss K) ⟨a0::a1::a2::u8 (u8 (u8 (u8 (u8 (u8 [u,u,u]))))),[],h⟩):T pQ Γ Fn.ka0 [a0,a1,a2] h K:=
 TB Tryz.func57 (aH Tryz.f57) hw
noncomputable def iD:=CR Tryz.f58 0
theorem kb:QT Γ Tryz.f58 0 iD.1 11 (qs [0,1,2,3,4,5,6,7,8,9,10] .done):=qt iD.2
noncomputable def iH:=CR Tryz.f58 1
theorem ke:QT Γ Tryz.f58 1 iH.1 19 (qs [0,1,2,3,4,5,6,7,8,9,10,11,12,13,14] (.st 15 [48] (qs [16,17,18] .done))):=qt iH.2
noncomputable def iF:=CR Tryz.f58 2
theorem ko:QT Γ Tryz.f58 2 iF.1 19 (qs [0,1,2,3,4,5,6,7,8,9,10,11,12,13,14,15] (.st 16 [68] (qs [17,18] .done))):=qt iF.2
noncomputable def RL:=CF Tryz.f58 (RG Tryz.f58)
def rD:List RS:=[]
theorem WH(hw:TC pQ Θ Γ RL.1 (aV rD K) ⟨a0::a1::a2::u8 (u8 (u8 (u8 (u8 (u8 (u8 (u8 (u8 (u8 [u]))))))))),[],h⟩):T pQ Γ Fn.kcT [a0,a1,a2] h K:=
 TB Tryz.func58 (aH Tryz.f58) hw
noncomputable def lB:=CR Tryz.f72 0
theorem qe:QT Γ Tryz.f72 0 lB.1 11 (qs [0,1,2,3,4,5] (.st 6 [38] (.all [(7,qs [8,9,10] .done)]))):=qt lB.2
noncomputable def Qn:=CF Tryz.f72 (RG Tryz.f72)
def yM:List RS:=[.cell 6 5 true]
def GP(t1 t6 t7 t8:AV)(loc:List (List AV))(h:AH):St:=⟨[zz,t1,zz,zz,zz,zz,t6,t7,t8,zz,zz,zz,zz,zz,zz,zz,zz,zz,zz,zz,zz,zz,zz,zz,zz,zz,zz,zz,zz,zz,zz,zz,zz,zz,zz,zz,zz,zz,zz,zz,zz,zz,zz,zz,zz,zz,zz,zz,zz],loc,h⟩
theorem U6(hw:TC pQ Θ Γ Qn.1 (aV yM K) ⟨a0::a1::a2::u8 (u8 (u8 (u8 (u8 [u,u,u,u,u,u])))),[],h⟩):T pQ Γ Fn.kcb [a0,a1,a2] h K:=
 TB Tryz.func72 (aH Tryz.f72) hw
noncomputable def QF:=CF Tryz.f75 R0
def Ip:List RS:=[.cell 8 5 true,.t 9]
theorem VX(hw:TC pQ Θ Γ QF.1 (aV Ip K) ⟨a0::a1::a2::a3::u8 (u8 []),[],h⟩):T pQ Γ Fn.kcn [a0,a1,a2,a3] h K:=
 TB Tryz.func75 (aH Tryz.f75) hw
noncomputable def RT:=CF Tryz.f76 R0
def Ms:List RS:=[.t 2]
theorem WS(hw:TC pQ Θ Γ RT.1 (aV Ms K) ⟨[a0,u,u,u,u,u],[],h⟩):T pQ Γ Fn.kc6 [a0] h K:=
 TB Tryz.func76 (aH Tryz.f76) hw
noncomputable def O8:=CF Tryz.f77 R0
def Aw:List RS:=[.cell 4 2 true]
theorem Xj(hw:TC pQ Θ Γ O8.1 (aV Aw K) ⟨a0::a1::u8 [u,u,u,u,u,u],[],h⟩):T pQ Γ Fn.kcx [a0,a1] h K:=
 TB Tryz.func77 (aH Tryz.f77) hw
noncomputable def Nv:=CF Tryz.f84 R0
def yV:List RS:=[.cell 2 5 true]
def GR(t0 t2 t3 t4:AV)(loc:List (List AV))(h:AH):St:=⟨[t0,zz,t2,t3,t4,zz,zz,zz,zz,zz,zz,zz,zz,zz,zz,zz,zz,zz,zz,zz,zz,zz,zz,zz,zz,zz],loc,h⟩
theorem WX(hw:TC pQ Θ Γ Nv.1 (aV yV K) ⟨a0::u8 (u8 (u8 [u])),[],h⟩):T pQ Γ Fn.kcQ [a0] h K:=
 TB Tryz.func84 (aH Tryz.f84) hw
noncomputable def cZ:=CR Tryz.f85 0
theorem eI:QT Γ Tryz.f85 0 cZ.1 8 (qs [0,1,2] (.st 3 [60] (.all [(4,qs [5,6,7] .done)]))):=qt cZ.2
noncomputable def Ri:=CF Tryz.f85 (RG Tryz.f85)
def kA:List RS:=[.cell 2 12 true]
def yZ(t0 t2 t4 t5:AV)(loc:List (List AV))(h:AH):St:=⟨[t0,zz,t2,zz,t4,t5,zz,zz,zz,zz,zz,zz,zz,zz,zz,zz,zz,zz,zz,zz,zz,zz,zz,zz,zz,zz,zz,zz,zz,zz,zz,zz,zz,zz,zz,zz,zz,zz,zz,zz,zz,zz,zz,zz,zz,zz,zz,zz,zz,zz,zz,zz,zz,zz,zz,zz,zz,zz,zz,zz,zz,zz,zz,zz,zz,zz,zz,zz],loc,h⟩
theorem Yw(hw:TC pQ Θ Γ Ri.1 (aV kA K) ⟨a0::u8 (u8 (u8 (u8 (u8 (u8 (u8 (u8 [u,u,u]))))))),[],h⟩):T pQ Γ Fn.kct [a0] h K:=
 TB Tryz.func85 (aH Tryz.f85) hw
noncomputable def Ps:=CF Tryz.f86 R0
def BD:List RS:=[.cell 2 2 true]
theorem UE(hw:TC pQ Θ Γ Ps.1 (aV BD K) ⟨a0::u8 [u,u,u,u,u],[],h⟩):T pQ Γ Fn.kcr [a0] h K:=
 TB Tryz.func86 (aH Tryz.f86) hw
noncomputable def PJ:=CF Tryz.f87 R0
def K9:List RS:=[.t 4]
theorem W7(hw:TC pQ Θ Γ PJ.1 (aV K9 K) ⟨a0::a1::u8 [u,u],[],h⟩):T pQ Γ Fn.kc5 [a0,a1] h K:=
 TB Tryz.func87 (aH Tryz.f87) hw
noncomputable def Ry:=CF Tryz.f88 R0
def yg:List RS:=[.cell 2 2 true]
theorem Vv(hw:TC pQ Θ Γ Ry.1 (aV yg K) ⟨a0::u8 (u8 [u,u,u,u,u,u]),[],h⟩):T pQ Γ Fn.kcv [a0] h K:=
 TB Tryz.func88 (aH Tryz.f88) hw
noncomputable def Ra:=CF Tryz.f89 R0
def Dc:List RS:=[.t 2]
def DV(t3 t7 t8 t9:AV)(loc:List (List AV))(h:AH):St:=⟨[zz,zz,zz,t3,zz,zz,zz,t7,t8,t9,zz,zz,zz,zz,zz,zz,zz,zz,zz,zz],loc,h⟩
theorem YH(hw:TC pQ Θ Γ Ra.1 (aV Dc K) ⟨a0::u8 (u8 [u,u,u]),[],h⟩):T pQ Γ Fn.ka7 [a0] h K:=
 TB Tryz.func89 (aH Tryz.f89) hw
noncomputable def qT:=CR Tryz.f90 0
theorem xR:QT Γ Tryz.f90 0 qT.1 15 (qs [0,1,3,4,6,7] (.st 2 [6,9] (qs [9] (.st 5 [9] (qs [8,10,11,12,13,14] .done))))):=qt qT.2
noncomputable def ON:=CF Tryz.f90 (RG Tryz.f90)
def FQ:List RS:=[.cell 2 12 true]
theorem Yq(hw:TC pQ Θ Γ ON.1 (aV FQ K) ⟨a0::u8 [u,u,u,u,u,u,u],[],h⟩):T pQ Γ Fn.kad [a0] h K:=
 TB Tryz.func90 (aH Tryz.f90) hw
noncomputable def qQ:=CR Tryz.f91 0
theorem yQ:QT Γ Tryz.f91 0 qQ.1 15 (qs [0,1,3,4,6,7] (.st 2 [6,9] (qs [9] (.st 5 [9] (qs [8,10,11,12,13,14] .done))))):=qt qQ.2
noncomputable def Po:=CF Tryz.f91 (RG Tryz.f91)
def Fj:List RS:=[.cell 2 7 true]
theorem YO(hw:TC pQ Θ Γ Po.1 (aV Fj K) ⟨a0::u8 [u,u,u,u,u,u,u],[],h⟩):T pQ Γ Fn.kau [a0] h K:=
 TB Tryz.func91 (aH Tryz.f91) hw
noncomputable def OP:=CF Tryz.f92 R0
def Lp:List RS:=[.cell 2 12 true]
theorem Y4(hw:TC pQ Θ Γ OP.1 (aV Lp K) ⟨[a0,u,u,u,u,u,u,u],[],h⟩):T pQ Γ Fn.kaz [a0] h K:=
 TB Tryz.func92 (aH Tryz.f92) hw
noncomputable def SW:=CF Tryz.f93 R0
def xr:List RS:=[.t 2]
theorem Yp(hw:TC pQ Θ Γ SW.1 (aV xr K) ⟨a0::u8 (u8 (u8 (u8 (u8 (u8 (u8 (u8 (u8 (u8 (u8 (u8 (u8 (u8 (u8 (u8 (u8 (u8 [u,u,u]))))))))))))))))),[],h⟩):T pQ Γ Fn.kbf [a0] h K:=
 TB Tryz.func93 (aH Tryz.f93) hw
noncomputable def Pe:=CF Tryz.f94 R0
def uN:List RS:=[.t 8,.t 9]
theorem Zw(hw:TC pQ Θ Γ Pe.1 (aV uN K) ⟨a0::a1::a2::a3::u8 (u8 (u8 (u8 (u8 (u8 (u8 [u,u])))))),[],h⟩):T pQ Γ Fn.kaK [a0,a1,a2,a3] h K:=
 TB Tryz.func94 (aH Tryz.f94) hw
noncomputable def cM:=CR Tryz.f95 0
theorem dq:QT Γ Tryz.f95 0 cM.1 7 (qs [0,1,2,3,4,5,6] .done):=qt cM.2
noncomputable def cN:=CR Tryz.f95 1
theorem dt:QQ Γ Tryz.f95 1 cN.1:=qq cN.2
noncomputable def O9:=CF Tryz.f95 (RG Tryz.f95)
def j5:List RS:=[.cell 6 2 true]
def zA(t0 t1 t5 t6 t50 t51:AV)(loc:List (List AV))(h:AH):St:=⟨[t0,t1,zz,zz,zz,t5,t6,zz,zz,zz,zz,zz,zz,zz,zz,zz,zz,zz,zz,zz,zz,zz,zz,zz,zz,zz,zz,zz,zz,zz,zz,zz,zz,zz,zz,zz,zz,zz,zz,zz,zz,zz,zz,zz,zz,zz,zz,zz,zz,zz,t50,t51,zz,zz,zz,zz,zz,zz,zz,zz,zz,zz,zz,zz,zz,zz,zz,zz,zz,zz,zz,zz,zz,zz,zz,zz,zz,zz,zz,zz,zz,zz,zz,zz,zz,zz,zz,zz,zz,zz,zz,zz,zz,zz,zz,zz,zz,zz,zz,zz,zz,zz,zz],loc,h⟩
theorem kaR_e(hw:TC pQ Θ Γ O9.1 (aV j5 K) ⟨a0::a1::a2::u8 (u8 (u8 (u8 (u8 (u8 (u8 (u8 (u8 (u8 (u8 (u8 [u,u,u,u]))))))))))),[],h⟩):T pQ Γ Fn.kaR [a0,a1,a2] h K:=
 TB Tryz.func95 (aH Tryz.f95) hw
noncomputable def tO:=CR Tryz.f96 0
theorem Cf:QT Γ Tryz.f96 0 tO.1 13 (qs [0,1,2,3,4,5,6,7] (.all [(8,qs [9,10,11,12] .done)])):=qt tO.2
noncomputable def SV:=CF Tryz.f96 (RG Tryz.f96)
def IJ:List RS:=[]
theorem kaX_e(hw:TC pQ Θ Γ SV.1 (aV IJ K) ⟨a0::a1::a2::u8 (u8 [u,u,u]),[],h⟩):T pQ Γ Fn.U5 [a0,a1,a2] h K:=
 TB Tryz.func96 (aH Tryz.f96) hw
noncomputable def Q0:=CF Tryz.f97 R0
def CA:List RS:=[]
theorem Vs(hw:TC pQ Θ Γ Q0.1 (aV CA K) ⟨a0::a1::a2::a3::a4::u8 (u8 (u8 [u,u,u])),[],h⟩):T pQ Γ Fn.kaQ [a0,a1,a2,a3,a4] h K:=
 TB Tryz.func97 (aH Tryz.f97) hw
noncomputable def C7:=CR Tryz.f98 0
theorem Xp:QQ Γ Tryz.f98 0 C7.1:=qq C7.2
noncomputable def WD:=CF Tryz.f98 (RG Tryz.f98)
def kbG_r:List RS:=[.t 4]
def kbG_s0(t0 t1 t12 t13:AV)(loc:List (List AV))(h:AH):St:=⟨[t0,t1,zz,zz,zz,zz,zz,zz,zz,zz,zz,zz,t12,t13,zz,zz,zz,zz,zz,zz,zz,zz,zz,zz,zz,zz],loc,h⟩
theorem UQ(hw:TC pQ Θ Γ WD.1 (aV kbG_r K) ⟨a0::a1::u8 (u8 (u8 [])),[],h⟩):T pQ Γ Fn.kbG [a0,a1] h K:=
 TB Tryz.func98 (aH Tryz.f98) hw
noncomputable def C8:=CR Tryz.f99 0
theorem YB:QQ Γ Tryz.f99 0 C8.1:=qq C8.2
noncomputable def VZ:=CF Tryz.f99 (RG Tryz.f99)
def UK:List RS:=[.t 4]
def kbD_s0(t0 t1 t12 t13:AV)(loc:List (List AV))(h:AH):St:=⟨[t0,t1,zz,zz,zz,zz,zz,zz,zz,zz,zz,zz,t12,t13,zz,zz,zz,zz,zz,zz,zz,zz,zz,zz,zz,zz],loc,h⟩
theorem XY(hw:TC pQ Θ Γ VZ.1 (aV UK K) ⟨a0::a1::u8 (u8 (u8 [])),[],h⟩):T pQ Γ Fn.kbD [a0,a1] h K:=
 TB Tryz.func99 (aH Tryz.f99) hw
noncomputable def YL:=CF Tryz.f100 R0
def VP:List RS:=[.t 6]
def kbC_s0(t1 t2 t15 t16 t17:AV)(loc:List (List AV))(h:AH):St:=⟨[zz,t1,t2,zz,zz,zz,zz,zz,zz,zz,zz,zz,zz,zz,zz,t15,t16,t17,zz,zz,zz,zz,zz,zz,zz,zz,zz,zz,zz,zz,zz,zz],loc,h⟩
theorem kbC_e(hw:TC pQ Θ Γ YL.1 (aV VP K) ⟨a0::a1::a2::u8 (u8 (u8 [u,u,u,u,u])),[],h⟩):T pQ Γ Fn.kbC [a0,a1,a2] h K:=
 TB Tryz.func100 (aH Tryz.f100) hw
noncomputable def NA:=CF Tryz.f101 R0
def Ah:List RS:=[.t 4]
theorem Un(hw:TC pQ Θ Γ NA.1 (aV Ah K) ⟨a0::a1::u8 (u8 (u8 (u8 [u,u,u,u]))),[],h⟩):T pQ Γ Fn.ka9 [a0,a1] h K:=
 TB Tryz.func101 (aH Tryz.f101) hw
noncomputable def C6:=CR Tryz.f102 0
theorem Yb:QQ Γ Tryz.f102 0 C6.1:=qq C6.2
noncomputable def UF:=CF Tryz.f102 (RG Tryz.f102)
def Zo:List RS:=[.t 4]
def kbE_s0(t0 t1 t12 t13:AV)(loc:List (List AV))(h:AH):St:=⟨[t0,t1,zz,zz,zz,zz,zz,zz,zz,zz,zz,zz,t12,t13,zz,zz,zz,zz,zz,zz,zz,zz,zz,zz,zz,zz],loc,h⟩
theorem Xc(hw:TC pQ Θ Γ UF.1 (aV Zo K) ⟨a0::a1::u8 (u8 (u8 [])),[],h⟩):T pQ Γ Fn.kbE [a0,a1] h K:=
 TB Tryz.func102 (aH Tryz.f102) hw
noncomputable def Du:=CR Tryz.f103 0
theorem WL:QQ Γ Tryz.f103 0 Du.1:=qq Du.2
noncomputable def XQ:=CF Tryz.f103 (RG Tryz.f103)
def Zp:List RS:=[.t 4]
def kbF_s0(t0 t1 t12 t13:AV)(loc:List (List AV))(h:AH):St:=⟨[t0,t1,zz,zz,zz,zz,zz,zz,zz,zz,zz,zz,t12,t13,zz,zz,zz,zz,zz,zz,zz,zz,zz,zz,zz,zz],loc,h⟩
theorem Vc(hw:TC pQ Θ Γ XQ.1 (aV Zp K) ⟨a0::a1::u8 (u8 (u8 [])),[],h⟩):T pQ Γ Fn.kbF [a0,a1] h K:=
 TB Tryz.func103 (aH Tryz.f103) hw
noncomputable def CB:=CR Tryz.f104 0
theorem ZB:QQ Γ Tryz.f104 0 CB.1:=qq CB.2
noncomputable def kbH_c:=CF Tryz.f104 (RG Tryz.f104)
def Ur:List RS:=[.t 4]
def kbH_s0(t0 t1 t12 t13:AV)(loc:List (List AV))(h:AH):St:=⟨[t0,t1,zz,zz,zz,zz,zz,zz,zz,zz,zz,zz,t12,t13,zz,zz,zz,zz,zz,zz,zz,zz,zz,zz,zz,zz],loc,h⟩
theorem Yv(hw:TC pQ Θ Γ kbH_c.1 (aV Ur K) ⟨a0::a1::u8 (u8 (u8 [])),[],h⟩):T pQ Γ Fn.kbH [a0,a1] h K:=
 TB Tryz.func104 (aH Tryz.f104) hw
noncomputable def OZ:=CF Tryz.f105 R0
def Gb:List RS:=[.t 2]
def D1(t0 t3 t4:AV)(loc:List (List AV))(h:AH):St:=⟨[t0,zz,zz,t3,t4,zz,zz,zz,zz,zz,zz,zz,zz,zz,zz,zz,zz,zz,zz,zz,zz,zz,zz,zz,zz,zz,zz,zz,zz,zz],loc,h⟩
theorem VS(hw:TC pQ Θ Γ OZ.1 (aV Gb K) ⟨a0::u8 (u8 (u8 [u,u,u,u,u])),[],h⟩):T pQ Γ Fn.kc8 [a0] h K:=
 TB Tryz.func105 (aH Tryz.f105) hw
noncomputable def OU:=CF Tryz.f106 R0
def JT:List RS:=[.cell 2 12 true]
theorem Vj(hw:TC pQ Θ Γ OU.1 (aV JT K) ⟨a0::u8 (u8 [u,u,u]),[],h⟩):T pQ Γ Fn.kc7 [a0] h K:=
 TB Tryz.func106 (aH Tryz.f106) hw
noncomputable def OQ:=CF Tryz.f107 R0
def N9:List RS:=[.cell 2 7 true]
theorem X9(hw:TC pQ Θ Γ OQ.1 (aV N9 K) ⟨a0::u8 (u8 [u,u,u,u]),[],h⟩):T pQ Γ Fn.kcp [a0] h K:=
 TB Tryz.func107 (aH Tryz.f107) hw
noncomputable def Nw:=CF Tryz.f108 R0
def P3:List RS:=[.cell 2 12 true]
theorem ZG(hw:TC pQ Θ Γ Nw.1 (aV P3 K) ⟨a0::u8 [u,u],[],h⟩):T pQ Γ Fn.kcs [a0] h K:=
 TB Tryz.func108 (aH Tryz.f108) hw
noncomputable def OR:=CF Tryz.f109 R0
def nH:List RS:=[.t 2]
def Hn(t1 t3 t5:AV)(loc:List (List AV))(h:AH):St:=⟨[zz,t1,zz,t3,zz,t5,zz,zz,zz,zz,zz,zz,zz,zz,zz,zz,zz,zz,zz,zz,zz,zz,zz,zz,zz,zz,zz,zz,zz,zz,zz,zz,zz,zz,zz,zz,zz,zz,zz,zz,zz,zz,zz,zz,zz,zz,zz,zz,zz,zz,zz,zz,zz,zz,zz,zz,zz,zz,zz,zz,zz,zz,zz,zz,zz,zz,zz,zz,zz,zz,zz,zz,zz,zz,zz,zz,zz,zz,zz,zz,zz,zz,zz,zz,zz,zz,zz,zz,zz,zz,zz,zz,zz,zz,zz,zz,zz,zz,zz,zz,zz,zz,zz,zz,zz,zz,zz,zz,zz,zz,zz,zz,zz,zz,zz,zz,zz,zz,zz,zz,zz,zz,zz,zz,zz,zz,zz,zz,zz,zz,zz,zz,zz,zz,zz,zz,zz,zz,zz,zz,zz,zz,zz,zz,zz,zz,zz,zz,zz,zz,zz,zz,zz,zz,zz,zz,zz,zz,zz,zz,zz,zz,zz,zz,zz,zz,zz,zz,zz,zz,zz,zz,zz,zz,zz,zz,zz,zz,zz,zz,zz,zz,zz],loc,h⟩
set_option maxRecDepth 10000 in
theorem aae(hw:TC pQ Θ Γ OR.1 (aV nH K) ⟨a0::u8 (u8 (u8 (u8 (u8 (u8 (u8 (u8 (u8 (u8 (u8 (u8 (u8 (u8 (u8 (u8 (u8 (u8 (u8 (u8 (u8 (u8 [u,u,u,u,u,u]))))))))))))))))))))),[],h⟩):T pQ Γ Fn.kbY [a0] h K:=
 TB Tryz.func109 (aH Tryz.f109) hw
noncomputable def PB:=CF Tryz.f110 R0
def Cg:List RS:=[.t 4]
def BL(t1 t2 t5:AV)(loc:List (List AV))(h:AH):St:=⟨[zz,t1,t2,zz,zz,t5,zz,zz,zz,zz,zz,zz,zz,zz,zz,zz,zz,zz,zz,zz,zz,zz,zz,zz,zz,zz,zz,zz,zz],loc,h⟩
theorem kb1_e(hw:TC pQ Θ Γ PB.1 (aV Cg K) ⟨a0::a1::u8 (u8 (u8 [u,u,u])),[],h⟩):T pQ Γ Fn.JD [a0,a1] h K:=
 TB Tryz.func110 (aH Tryz.f110) hw
noncomputable def kQ:=CR Tryz.f111 0
theorem pk:QT Γ Tryz.f111 0 kQ.1 15 (qs [0,1,2,3,4,5,6,7,12] (.st 8 [13] (qs [9,10,11,13,14] .done))):=qt kQ.2
noncomputable def SI:=CF Tryz.f111 (RG Tryz.f111)
def xe:List RS:=[.t 8]
theorem Z8(hw:TC pQ Θ Γ SI.1 (aV xe K) ⟨a0::a1::a2::a3::u8 (u8 (u8 (u8 (u8 (u8 (u8 [u,u,u])))))),[],h⟩):T pQ Γ Fn.kcS [a0,a1,a2,a3] h K:=
 TB Tryz.func111 (aH Tryz.f111) hw
noncomputable def cW:=CR Tryz.f112 0
theorem eG:QT Γ Tryz.f112 0 cW.1 15 (qs [0,1,2,3,4,5,6,7,11,12] (.st 8 [36,45] (qs [9,10,13,14] .done))):=qt cW.2
noncomputable def cU:=CR Tryz.f112 1
theorem dW:QT Γ Tryz.f112 1 cU.1 7 (qs [0,1,2,3] (.st 4 [52] (qs [5,6] .done))):=qt cU.2
noncomputable def cX:=CR Tryz.f112 2
theorem et:QT Γ Tryz.f112 2 cX.1 8 (qs [0,1,2,3,4,5,6,7] .done):=qt cX.2
noncomputable def c6:=CR Tryz.f112 3
theorem eK:QT Γ Tryz.f112 3 c6.1 17 (qs [0,1,2,3,4,5,6,7,8,9,10,11,12,13,14,15,16] .done):=qt c6.2
noncomputable def Sf:=CF Tryz.f112 (RG Tryz.f112)
def kz:List RS:=[.cell 6 2 true]
theorem VF(hw:TC pQ Θ Γ Sf.1 (aV kz K) ⟨a0::a1::a2::u8 (u8 (u8 (u8 (u8 (u8 (u8 (u8 (u8 (u8 (u8 [u,u,u,u])))))))))),[],h⟩):T pQ Γ Fn.kcz [a0,a1,a2] h K:=
 TB Tryz.func112 (aH Tryz.f112) hw
noncomputable def tX:=CR Tryz.f113 0
theorem Cl:QT Γ Tryz.f113 0 tX.1 13 (qs [0,1,2,3,4,5,6,7] (.all [(8,qs [9,10,11,12] .done)])):=qt tX.2
noncomputable def R8:=CF Tryz.f113 (RG Tryz.f113)
def IT:List RS:=[]
theorem Xx(hw:TC pQ Θ Γ R8.1 (aV IT K) ⟨a0::a1::a2::u8 (u8 [u,u,u,u]),[],h⟩):T pQ Γ Fn.TL [a0,a1,a2] h K:=
 TB Tryz.func113 (aH Tryz.f113) hw
noncomputable def pL:=CR Tryz.f114 0
theorem uR:QT Γ Tryz.f114 0 pL.1 18 (qs [0,1,2,3,4,5,6,7,8,9,10,11,12,13] (.st 14 [18] (qs [15,16,17] .done))):=qt pL.2
noncomputable def Th:=CF Tryz.f114 (RG Tryz.f114)
def CJ:List RS:=[]
theorem kcV_e(hw:TC pQ Θ Γ Th.1 (aV CJ K) ⟨a0::a1::a2::a3::a4::u8 (u8 (u8 (u8 [u,u,u,u,u]))),[],h⟩):T pQ Γ Fn.kcV [a0,a1,a2,a3,a4] h K:=
 TB Tryz.func114 (aH Tryz.f114) hw
noncomputable def QJ:=CF Tryz.f115 R0
def Kz:List RS:=[.t 6]
theorem Wu(hw:TC pQ Θ Γ QJ.1 (aV Kz K) ⟨a0::a1::a2::u8 [u,u,u,u],[],h⟩):T pQ Γ Fn.VN [a0,a1,a2] h K:=
 TB Tryz.func115 (aH Tryz.f115) hw
noncomputable def tq:=CR Tryz.f116 0
theorem BH:QQ Γ Tryz.f116 0 tq.1:=qq tq.2
noncomputable def tD:=CR Tryz.f116 1
theorem Bk:QQ Γ Tryz.f116 1 tD.1:=qq tD.2
noncomputable def tG:=CR Tryz.f116 2
theorem Bc:QQ Γ Tryz.f116 2 tG.1:=qq tG.2
noncomputable def Q2:=CF Tryz.f116 (RG Tryz.f116)
def HF:List RS:=[.t 2]
theorem W8(hw:TC pQ Θ Γ Q2.1 (aV HF K) ⟨a0::u8 (u8 (u8 (u8 (u8 (u8 (u8 [u])))))),[],h⟩):T pQ Γ Fn.kc0 [a0] h K:=
 TB Tryz.func116 (aH Tryz.f116) hw
noncomputable def nh:=CR Tryz.f117 0
theorem rm:QT Γ Tryz.f117 0 nh.1 6 (qs [0,1,2] (.st 3 [8] (qs [4,5] .done))):=qt nh.2
noncomputable def Nz:=CF Tryz.f117 (RG Tryz.f117)
def Ao:List RS:=[.cell 2 5 true,.t 3,.cell 4 12 true]
theorem kbP_e(hw:TC pQ Θ Γ Nz.1 (aV Ao K) ⟨a0::u8 (u8 (u8 [u])),[],h⟩):T pQ Γ Fn.kbP [a0] h K:=
 TB Tryz.func117 (aH Tryz.f117) hw
noncomputable def fM:=CR Tryz.f118 0
theorem iQ:QT Γ Tryz.f118 0 fM.1 16 (qs [0,1,2,3,4,5,6,7,8,9,10,11,12,13,14,15] .done):=qt fM.2
noncomputable def fO:=CR Tryz.f118 1
theorem iW:QT Γ Tryz.f118 1 fO.1 14 (qs [0,1,2,3,4,5,6,7,8] (.all [(9,qs [10,11,12,13] .done)])):=qt fO.2
noncomputable def Qk:=CF Tryz.f118 (RG Tryz.f118)
def pz:List RS:=[]
theorem WA(hw:TC pQ Θ Γ Qk.1 (aV pz K) ⟨a0::a1::a2::u8 (u8 (u8 (u8 (u8 (u8 (u8 (u8 (u8 (u8 [u,u,u,u,u,u]))))))))),[],h⟩):T pQ Γ Fn.kaZ [a0,a1,a2] h K:=
 TB Tryz.func118 (aH Tryz.f118) hw
noncomputable def eB:=CR Tryz.f119 0
theorem gC:QT Γ Tryz.f119 0 eB.1 11 (qs [0,1,2,3,4,5,6,7,8,9,10] .done):=qt eB.2
noncomputable def dY:=CR Tryz.f119 1
theorem gG:QT Γ Tryz.f119 1 dY.1 7 (qs [0,1,2,3,4,5,6] .done):=qt dY.2
noncomputable def eC:=CR Tryz.f119 2
theorem gD:QT Γ Tryz.f119 2 eC.1 10 (qs [0,1,2,3,4,5,6,7,8,9] .done):=qt eC.2
noncomputable def eu:=CR Tryz.f119 3
theorem gJ:QT Γ Tryz.f119 3 eu.1 22 (qs [0,1,2,3,4,5,6,7,8,9,10,11,12,13,14,15,16] (.all [(17,.st 18 [79] (qs [19,20,21] .done))])):=qt eu.2
noncomputable def Sv:=CF Tryz.f119 (RG Tryz.f119)
def nu:List RS:=[]
theorem W4(hw:TC pQ Θ Γ Sv.1 (aV nu K) ⟨a0::a1::a2::u8 (u8 (u8 (u8 (u8 (u8 (u8 (u8 (u8 (u8 (u8 (u8 (u8 [u,u,u,u,u,u])))))))))))),[],h⟩):T pQ Γ Fn.kcM [a0,a1,a2] h K:=
 TB Tryz.func119 (aH Tryz.f119) hw
noncomputable def pN:=CR Tryz.f120 0
theorem vh:QT Γ Tryz.f120 0 pN.1 6 (qs [0,1,2,3,4,5] .done):=qt pN.2
noncomputable def NY:=CF Tryz.f120 (RG Tryz.f120)
def CS:List RS:=[.t 4]
theorem XN(hw:TC pQ Θ Γ NY.1 (aV CS K) ⟨a0::a1::u8 (u8 (u8 [u,u,u])),[],h⟩):T pQ Γ Fn.kaT [a0,a1] h K:=
 TB Tryz.func120 (aH Tryz.f120) hw
noncomputable def OT:=CF Tryz.f121 R0
def JU:List RS:=[.t 4]
theorem WQ(hw:TC pQ Θ Γ OT.1 (aV JU K) ⟨[a0,a1,u,u,u,u,u,u],[],h⟩):T pQ Γ Fn.kba [a0,a1] h K:=
 TB Tryz.func121 (aH Tryz.f121) hw
noncomputable def Sn:=CF Tryz.f122 R0
def HJ:List RS:=[.t 4]
theorem U4(hw:TC pQ Θ Γ Sn.1 (aV HJ K) ⟨[a0,a1,u,u,u,u,u,u,u],[],h⟩):T pQ Γ Fn.kab [a0,a1] h K:=
 TB Tryz.func122 (aH Tryz.f122) hw
noncomputable def Rs:=CF Tryz.f123 R0
def Bp:List RS:=[]
theorem YX(hw:TC pQ Θ Γ Rs.1 (aV Bp K) ⟨a0::a1::a2::u8 (u8 (u8 (u8 (u8 [u,u,u,u,u])))),[],h⟩):T pQ Γ Fn.kay [a0,a1,a2] h K:=
 TB Tryz.func123 (aH Tryz.f123) hw
noncomputable def SR:=CF Tryz.f124 R0
def C9:List RS:=[.t 4]
def Ei(t1 t2 t5:AV)(loc:List (List AV))(h:AH):St:=⟨[zz,t1,t2,zz,zz,t5,zz,zz,zz,zz,zz,zz,zz,zz,zz,zz,zz,zz,zz,zz,zz,zz],loc,h⟩
theorem kb4_e(hw:TC pQ Θ Γ SR.1 (aV C9 K) ⟨a0::a1::u8 (u8 [u,u,u,u]),[],h⟩):T pQ Γ Fn.Uc [a0,a1] h K:=
 TB Tryz.func124 (aH Tryz.f124) hw
noncomputable def Oq:=CF Tryz.f125 R0
def Dt:List RS:=[.t 4]
def Em(t0 t1 t5:AV)(loc:List (List AV))(h:AH):St:=⟨[t0,t1,zz,zz,zz,t5,zz,zz,zz,zz,zz,zz,zz,zz,zz,zz,zz,zz,zz],loc,h⟩
theorem ZL(hw:TC pQ Θ Γ Oq.1 (aV Dt K) ⟨a0::a1::u8 (u8 [u]),[],h⟩):T pQ Γ Fn.kcO [a0,a1] h K:=
 TB Tryz.func125 (aH Tryz.f125) hw
noncomputable def OI:=CF Tryz.f126 R0
def CL:List RS:=[.t 4]
def Bh(t0 t1 t5 t6:AV)(loc:List (List AV))(h:AH):St:=⟨[t0,t1,zz,zz,zz,t5,t6,zz,zz,zz,zz,zz,zz,zz,zz,zz,zz,zz,zz,zz,zz,zz,zz,zz,zz,zz,zz,zz,zz],loc,h⟩
theorem ZK(hw:TC pQ Θ Γ OI.1 (aV CL K) ⟨a0::a1::u8 (u8 (u8 [u,u,u])),[],h⟩):T pQ Γ Fn.kbU [a0,a1] h K:=
 TB Tryz.func126 (aH Tryz.f126) hw
noncomputable def kK:=CR Tryz.f127 0
theorem py:QT Γ Tryz.f127 0 kK.1 14 (qs [1,2,3,4,6,7,8,9,10] (.all [(0,.st 5 [46] (qs [11,12,13] .done))])):=qt kK.2
noncomputable def P7:=CF Tryz.f127 (RG Tryz.f127)
def xk:List RS:=[.cell 6 7 true]
def D0(t1 t2 t3 t6 t7 t8:AV)(loc:List (List AV))(h:AH):St:=⟨[zz,t1,t2,t3,zz,zz,t6,t7,t8,zz,zz,zz,zz,zz,zz,zz,zz,zz,zz,zz,zz,zz,zz,zz,zz,zz,zz,zz,zz,zz,zz,zz,zz,zz,zz,zz,zz,zz,zz,zz,zz,zz,zz,zz,zz,zz,zz,zz,zz,zz,zz,zz,zz,zz,zz,zz,zz,zz,zz,zz,zz],loc,h⟩
theorem Us(hw:TC pQ Θ Γ P7.1 (aV xk K) ⟨a0::a1::a2::u8 (u8 (u8 (u8 (u8 (u8 (u8 [u,u])))))),[],h⟩):T pQ Γ Fn.kcl [a0,a1,a2] h K:=
 TB Tryz.func127 (aH Tryz.f127) hw
noncomputable def qS:=CR Tryz.f133 0
theorem yz:QT Γ Tryz.f133 0 qS.1 16 (qs [0,1,2,3,4,5,6,7,8,9,10] (.all [(11,qs [12,13,14,15] .done)])):=qt qS.2
noncomputable def Ob:=CF Tryz.f133 (RG Tryz.f133)
def FY:List RS:=[.t 4]
theorem Yu(hw:TC pQ Θ Γ Ob.1 (aV FY K) ⟨a0::a1::u8 (u8 (u8 (u8 (u8 (u8 [u,u,u,u,u,u]))))),[],h⟩):T pQ Γ Fn.kax [a0,a1] h K:=
 TB Tryz.func133 (aH Tryz.f133) hw
noncomputable def PU:=CF Tryz.f134 R0
def Rw:List RS:=[.cell 4 12 true]
theorem kaC_e(hw:TC pQ Θ Γ PU.1 (aV Rw K) ⟨[a0,a1,u,u,u,u,u,u],[],h⟩):T pQ Γ Fn.kaC [a0,a1] h K:=
 TB Tryz.func134 (aH Tryz.f134) hw
noncomputable def LX:=CF Tryz.f142 R0
def Iz:List RS:=[.t 6]
theorem Pu(hw:TC pQ Θ Γ LX.1 (aV Iz K) ⟨a0::a1::a2::u8 [u,u,u,u],[],h⟩):T pQ Γ Fn.xG [a0,a1,a2] h K:=
 TB Tryz.func142 (aH Tryz.f142) hw
noncomputable def Qv:=CF Tryz.f143 R0
def O4:List RS:=[.cell 4 12 true]
theorem kb8_e(hw:TC pQ Θ Γ Qv.1 (aV O4 K) ⟨[a0,a1,u,u,u,u,u,u,u,u],[],h⟩):T pQ Γ Fn.kb8 [a0,a1] h K:=
 TB Tryz.func143 (aH Tryz.f143) hw
noncomputable def mZ:=CR Tryz.f144 0
theorem rn:QT Γ Tryz.f144 0 mZ.1 13 (qs [0,1,2,3,4,5,6,7,8,9,10,11,12] .done):=qt mZ.2
noncomputable def mM:=CR Tryz.f144 1
theorem qY:QT Γ Tryz.f144 1 mM.1 9 (qs [0,1,2,3,4,5,6] (.st 7 [38,42] (qs [8] .done))):=qt mM.2
noncomputable def mQ:=CR Tryz.f144 2
theorem rF:QT Γ Tryz.f144 2 mQ.1 5 (qs [0,1,2] (.st 3 [58] (qs [4] .done))):=qt mQ.2
noncomputable def PK:=CF Tryz.f144 (RG Tryz.f144)
def An:List RS:=[.cell 4 7 true,.t 5]
def EP(t1 t2 t4 t6 t7:AV)(loc:List (List AV))(h:AH):St:=⟨[zz,t1,t2,zz,t4,zz,t6,t7,zz,zz,zz,zz,zz,zz,zz,zz,zz,zz,zz,zz,zz,zz,zz,zz,zz,zz,zz,zz,zz,zz,zz,zz,zz,zz,zz,zz,zz,zz,zz,zz,zz,zz,zz,zz,zz,zz,zz,zz,zz,zz,zz,zz,zz,zz,zz,zz,zz,zz,zz,zz],loc,h⟩
theorem kcd_e(hw:TC pQ Θ Γ PK.1 (aV An K) ⟨a0::a1::u8 (u8 (u8 (u8 (u8 (u8 (u8 [u,u])))))),[],h⟩):T pQ Γ Fn.kcd [a0,a1] h K:=
 TB Tryz.func144 (aH Tryz.f144) hw
noncomputable def SL:=CF Tryz.f145 R0
def QB:List RS:=[.cell 2 7 true]
theorem UC(hw:TC pQ Θ Γ SL.1 (aV QB K) ⟨[a0,u,u,u,u],[],h⟩):T pQ Γ Fn.kb7 [a0] h K:=
 TB Tryz.func145 (aH Tryz.f145) hw
noncomputable def O1:=CF Tryz.f146 R0
def S7:List RS:=[.cell 4 12 true]
theorem kca_e(hw:TC pQ Θ Γ O1.1 (aV S7 K) ⟨[a0,a1,u,u,u,u,u,u],[],h⟩):T pQ Γ Fn.kca [a0,a1] h K:=
 TB Tryz.func146 (aH Tryz.f146) hw
noncomputable def eO:=CR Tryz.f155 0
theorem gY:QT Γ Tryz.f155 0 eO.1 17 (qs [0,1,2,3,4,5,6,7,8,9,10,11,12,13,14,15,16] .done):=qt eO.2
noncomputable def eP:=CR Tryz.f155 1
theorem ij:QT Γ Tryz.f155 1 eP.1 23 (qs [0,1,2,4,6,7,8,9,10,11,12,13,14,15,16,17,18,19,20] (.all [(3,.st 5 [69,74,78] (qs [21,22] .done))])):=qt eP.2
noncomputable def NI:=CF Tryz.f155 (RG Tryz.f155)
def nI:List RS:=[.t 8]
theorem kcK_e(hw:TC pQ Θ Γ NI.1 (aV nI K) ⟨a0::a1::a2::a3::u8 (u8 (u8 (u8 (u8 (u8 (u8 (u8 (u8 (u8 []))))))))),[],h⟩):T pQ Γ Fn.kcK [a0,a1,a2,a3] h K:=
 TB Tryz.func155 (aH Tryz.f155) hw
noncomputable def LO:=CF Tryz.f156 R0
def Gk:List RS:=[.cell 2 2 true]
theorem Py(hw:TC pQ Θ Γ LO.1 (aV Gk K) ⟨[a0,u,u,u,u,u],[],h⟩):T pQ Γ Fn.kbX [a0] h K:=
 TB Tryz.func156 (aH Tryz.f156) hw
noncomputable def NZ:=CF Tryz.f157 R0
def Qd:List RS:=[.cell 2 2 true]
theorem kck_e(hw:TC pQ Θ Γ NZ.1 (aV Qd K) ⟨[a0,u,u,u,u],[],h⟩):T pQ Γ Fn.Ts [a0] h K:=
 TB Tryz.func157 (aH Tryz.f157) hw
noncomputable def fo:=CR Tryz.f165 0
theorem iA:QT Γ Tryz.f165 0 fo.1 11 (qs [0,1,2,3,4,6,7] (.st 5 [3,3] (.st 8 [3] (qs [9,10] .done)))):=qt fo.2
noncomputable def fB:=CR Tryz.f165 1
theorem iu:QT Γ Tryz.f165 1 fB.1 14 (qs [0,1,2,3,4,6,8] (.st 5 [3] (.st 7 [3] (qs [9,10,11,12,13] .done)))):=qt fB.2
noncomputable def P5:=CF Tryz.f165 (RG Tryz.f165)
def oH:List RS:=[.cell 2 5 true]
def GN(t0 t2 t3 t4:AV)(loc:List (List AV))(h:AH):St:=⟨[t0,zz,t2,t3,t4,zz,zz,zz,zz,zz,zz,zz,zz,zz,zz,zz,zz,zz,zz,zz,zz,zz,zz,zz,zz,zz,zz,zz,zz,zz,zz,zz,zz,zz,zz,zz,zz,zz,zz,zz,zz,zz,zz,zz,zz,zz,zz,zz,zz,zz,zz,zz,zz,zz,zz,zz],loc,h⟩
def GL(t0 t2 t3 t4 t5 t6:AV)(loc:List (List AV))(h:AH):St:=⟨[t0,zz,t2,t3,t4,t5,t6,zz,zz,zz,zz,zz,zz,zz,zz,zz,zz,zz,zz,zz,zz,zz,zz,zz,zz,zz,zz,zz,zz,zz,zz,zz,zz,zz,zz,zz,zz,zz,zz,zz,zz,zz,zz,zz,zz,zz,zz,zz,zz,zz,zz,zz,zz,zz,zz,zz],loc,h⟩
theorem WM(hw:TC pQ Θ Γ P5.1 (aV oH K) ⟨a0::u8 (u8 (u8 (u8 (u8 (u8 [u,u,u,u,u,u,u]))))),[],h⟩):T pQ Γ Fn.kcL [a0] h K:=
 TB Tryz.func165 (aH Tryz.f165) hw
noncomputable def lg:=CR Tryz.f166 0
theorem p9:QT Γ Tryz.f166 0 lg.1 4 (qs [0,1,2,3] .done):=qt lg.2
noncomputable def RY:=CF Tryz.f166 (RG Tryz.f166)
def yU:List RS:=[.t 4,.cell 5 12 true]
def GY(t0 t5 t6 t7:AV)(loc:List (List AV))(h:AH):St:=⟨[t0,zz,zz,zz,zz,t5,t6,t7,zz,zz,zz,zz,zz,zz,zz,zz,zz,zz,zz,zz,zz,zz,zz,zz,zz,zz],loc,h⟩
theorem Ya(hw:TC pQ Θ Γ RY.1 (aV yU K) ⟨a0::a1::u8 (u8 (u8 [])),[],h⟩):T pQ Γ Fn.kcN [a0,a1] h K:=
 TB Tryz.func166 (aH Tryz.f166) hw
noncomputable def NJ:=CF Tryz.f167 R0
def IW:List RS:=[.cell 6 5 true]
theorem WU(hw:TC pQ Θ Γ NJ.1 (aV IW K) ⟨a0::a1::a2::u8 [u,u,u],[],h⟩):T pQ Γ Fn.kcg [a0,a1,a2] h K:=
 TB Tryz.func167 (aH Tryz.f167) hw
noncomputable def NW:=CF Tryz.f168 R0
def KG:List RS:=[.cell 2 7 true]
theorem XO(hw:TC pQ Θ Γ NW.1 (aV KG K) ⟨[a0,u,u,u,u,u,u,u],[],h⟩):T pQ Γ Fn.kaI [a0] h K:=
 TB Tryz.func168 (aH Tryz.f168) hw
noncomputable def kbs_c:=CF Tryz.f169 R0
def YR:List RS:=[.t 2]
theorem kbs_e(hw:TC pQ Θ Γ kbs_c.1 (aV YR K) ⟨[a0,u,u,u,u,u,u,u],[],h⟩):T pQ Γ Fn.kbs [a0] h K:=
 TB Tryz.func169 (aH Tryz.f169) hw
noncomputable def YZ:=CF Tryz.f170 R0
def U2:List RS:=[.t 2]
theorem XK(hw:TC pQ Θ Γ YZ.1 (aV U2 K) ⟨[a0,u,u,u,u,u,u,u],[],h⟩):T pQ Γ Fn.kbp [a0] h K:=
 TB Tryz.func170 (aH Tryz.f170) hw
noncomputable def YF:=CF Tryz.f171 R0
def UW:List RS:=[.t 2]
theorem YK(hw:TC pQ Θ Γ YF.1 (aV UW K) ⟨[a0,u,u,u,u,u,u,u],[],h⟩):T pQ Γ Fn.kbq [a0] h K:=
 TB Tryz.func171 (aH Tryz.f171) hw
noncomputable def Yn:=CF Tryz.f172 R0
def Vt:List RS:=[.t 2]
theorem kbr_e(hw:TC pQ Θ Γ Yn.1 (aV Vt K) ⟨[a0,u,u,u,u,u,u,u],[],h⟩):T pQ Γ Fn.kbr [a0] h K:=
 TB Tryz.func172 (aH Tryz.f172) hw
noncomputable def XF:=CF Tryz.f173 R0
def Wy:List RS:=[.t 2]
theorem Yd(hw:TC pQ Θ Γ XF.1 (aV Wy K) ⟨[a0,u,u,u,u,u,u,u],[],h⟩):T pQ Γ Fn.kbt [a0] h K:=
 TB Tryz.func173 (aH Tryz.f173) hw
noncomputable def Rx:=CF Tryz.f174 R0
def K3:List RS:=[.t 2]
theorem Wn(hw:TC pQ Θ Γ Rx.1 (aV K3 K) ⟨[a0,u,u,u,u],[],h⟩):T pQ Γ Fn.kbl [a0] h K:=
 TB Tryz.func174 (aH Tryz.f174) hw
noncomputable def S4:=CF Tryz.f175 R0
def yp:List RS:=[.t 2]
def E2(t0 t9 t10:AV)(loc:List (List AV))(h:AH):St:=⟨[t0,zz,zz,zz,zz,zz,zz,zz,zz,t9,t10,zz,zz,zz,zz,zz,zz,zz,zz,zz,zz,zz,zz,zz],loc,h⟩
theorem ZA(hw:TC pQ Θ Γ S4.1 (aV yp K) ⟨a0::u8 (u8 [u,u,u,u,u,u,u]),[],h⟩):T pQ Γ Fn.kbh [a0] h K:=
 TB Tryz.func175 (aH Tryz.f175) hw
noncomputable def NQ:=CF Tryz.f176 R0
def KY:List RS:=[.t 4]
theorem Ux(hw:TC pQ Θ Γ NQ.1 (aV KY K) ⟨[a0,a1,u,u,u,u,u,u,u],[],h⟩):T pQ Γ Fn.kbw [a0,a1] h K:=
 TB Tryz.func176 (aH Tryz.f176) hw
noncomputable def Oa:=CF Tryz.f177 R0
def Ki:List RS:=[.t 2]
theorem kbg_e(hw:TC pQ Θ Γ Oa.1 (aV Ki K) ⟨[a0,u,u,u,u,u],[],h⟩):T pQ Γ Fn.kbg [a0] h K:=
 TB Tryz.func177 (aH Tryz.f177) hw
noncomputable def Qf:=CF Tryz.f178 R0
def yC:List RS:=[.t 2]
theorem kbk_e(hw:TC pQ Θ Γ Qf.1 (aV yC K) ⟨a0::u8 (u8 [u,u,u,u]),[],h⟩):T pQ Γ Fn.kbk [a0] h K:=
 TB Tryz.func178 (aH Tryz.f178) hw
noncomputable def Ti:=CF Tryz.f179 R0
def Bs:List RS:=[.t 2]
theorem kbj_e(hw:TC pQ Θ Γ Ti.1 (aV Bs K) ⟨a0::u8 [u,u,u,u,u,u,u],[],h⟩):T pQ Γ Fn.kbj [a0] h K:=
 TB Tryz.func179 (aH Tryz.f179) hw
noncomputable def NU:=CF Tryz.f180 R0
def Dk:List RS:=[.t 4]
def ET(t1 t7 t8 t9:AV)(loc:List (List AV))(h:AH):St:=⟨[zz,t1,zz,zz,zz,zz,zz,t7,t8,t9,zz,zz,zz,zz,zz,zz,zz,zz,zz,zz],loc,h⟩
theorem Vf(hw:TC pQ Θ Γ NU.1 (aV Dk K) ⟨a0::a1::u8 (u8 [u,u]),[],h⟩):T pQ Γ Fn.kaj [a0,a1] h K:=
 TB Tryz.func180 (aH Tryz.f180) hw
noncomputable def Qs:=CF Tryz.f181 R0
def Rq:List RS:=[.cell 0 2 true]
theorem aab(hw:TC pQ Θ Γ Qs.1 (aV Rq K) ⟨[u,u],[],h⟩):T pQ Γ Fn.kaa [] h K:=
 TB Tryz.func181 (aH Tryz.f181) hw
noncomputable def SS:=CF Tryz.f182 R0
def LC:List RS:=[.cell 2 2 true]
theorem Zs(hw:TC pQ Θ Γ SS.1 (aV LC K) ⟨[a0,u,u,u,u,u],[],h⟩):T pQ Γ Fn.kal [a0] h K:=
 TB Tryz.func182 (aH Tryz.f182) hw
noncomputable def OW:=CF Tryz.f183 R0
def IU:List RS:=[.t 4]
theorem Zc(hw:TC pQ Θ Γ OW.1 (aV IU K) ⟨a0::a1::u8 [u,u,u,u,u,u],[],h⟩):T pQ Γ Fn.kak [a0,a1] h K:=
 TB Tryz.func183 (aH Tryz.f183) hw
noncomputable def Ss:=CF Tryz.f184 R0
def vg:List RS:=[.cell 4 2 true]
def DJ(t0 t3 t4 t11 t12:AV)(loc:List (List AV))(h:AH):St:=⟨[t0,zz,zz,t3,t4,zz,zz,zz,zz,zz,zz,t11,t12,zz,zz,zz,zz,zz,zz,zz,zz,zz,zz,zz,zz,zz,zz,zz,zz,zz,zz,zz,zz,zz,zz,zz,zz,zz,zz,zz,zz,zz,zz,zz,zz],loc,h⟩
theorem Y0(hw:TC pQ Θ Γ Ss.1 (aV vg K) ⟨a0::a1::u8 (u8 (u8 (u8 (u8 [u,u,u])))),[],h⟩):T pQ Γ Fn.Uh [a0,a1] h K:=
 TB Tryz.func184 (aH Tryz.f184) hw
noncomputable def PS:=CF Tryz.f185 R0
def Pc:List RS:=[.cell 2 2 true]
theorem Wl(hw:TC pQ Θ Γ PS.1 (aV Pc K) ⟨[a0,u,u,u,u],[],h⟩):T pQ Γ Fn.Ug [a0] h K:=
 TB Tryz.func185 (aH Tryz.f185) hw
noncomputable def oJ:=CR Tryz.f186 0
theorem tY:QT Γ Tryz.f186 0 oJ.1 11 (qs [0,1,2,3,4,5] (.all [(6,qs [7,8,9,10] .done)])):=qt oJ.2
noncomputable def Mk:=CF Tryz.f186 (RG Tryz.f186)
def Bi:List RS:=[.t 4]
theorem QP(hw:TC pQ Θ Γ Mk.1 (aV Bi K) ⟨a0::a1::u8 (u8 (u8 [u])),[],h⟩):T pQ Γ Fn.kaJ [a0,a1] h K:=
 TB Tryz.func186 (aH Tryz.f186) hw
def zy:List O:=[mG 24 2 7,mV 25 0,⟨(some 26),none,.nilchk (.t 25)⟩,mF 27 1 26,mL 28 1 27,mN 29 28,mC 30 Fn.kao [.t 24,.t 29],mU 31 30,mV 32 31,⟨(some 33),(some (8,false)),.load 2 true (.t 7)⟩,⟨(some 34),(some (8,false)),.mov (.t 1)⟩,⟨(some 35),(some (8,false)),.call (.c (.fn Fn.Ug [] [])) [.t 34]⟩,⟨(some 36),(some (8,false)),.bin .eql (.agg [.int .i64,.int .i64]) (.t 33) (.t 35)⟩,⟨(some 37),none,.pick (.t 32) (.c (.bool true)) (.t 36)⟩]
def Ac:List (List Nat):=[[],[],[1],[2],[3],[4],[0,5],[6],[7,6],[8],[8],[10,8,8],[9,11,8],[8,12]]
theorem dI(gl:Gl)(Q:AE→St→Prop)(s:St):aw pQ Θ Γ gl (.regD zy Ac) Q s=fy pQ Γ gl [mG 24 2 7,mV 25 0,⟨(some 26),none,.nilchk (.t 25)⟩,mF 27 1 26,mL 28 1 27,mN 29 28,mC 30 Fn.kao [.t 24,.t 29],mU 31 30,mV 32 31,⟨(some 33),(some (8,false)),.load 2 true (.t 7)⟩,⟨(some 34),(some (8,false)),.mov (.t 1)⟩,⟨(some 35),(some (8,false)),.call (.c (.fn Fn.Ug [] [])) [.t 34]⟩,⟨(some 36),(some (8,false)),.bin .eql (.agg [.int .i64,.int .i64]) (.t 33) (.t 35)⟩,⟨(some 37),none,.pick (.t 32) (.c (.bool true)) (.t 36)⟩] (Q .normal) 14 (.q 0 (.q 1 (.q 2 (.q 3 (.q 4 (.q 5 (.q 6 (.q 7 (.q 8 (.q 9 (.q 10 (.st 11 [7] (.q 12 (.q 13 (.done))))))))))))))) s:=qL rfl (by kernel_rfl) gl Q s
def zY:List O:=[mV 39 6,⟨(some 40),none,.nilchk (.t 39)⟩,mF 41 6 40,mL 42 1 41,mV 43 6,⟨(some 44),none,.nilchk (.t 43)⟩,mF 45 7 44,mL 46 1 45,mV 8 42,mV 9 46]
def zu:List (List Nat):=[[],[0],[1],[2],[],[4],[5],[6],[3,0,1,2,3],[7,8,0,1,2,3,4,5,6,7,8]]
theorem dL(gl:Gl)(Q:AE→St→Prop)(s:St):aw pQ Θ Γ gl (.regD zY zu) Q s=jS pQ Γ gl [mV 39 6,⟨(some 40),none,.nilchk (.t 39)⟩,mF 41 6 40,mL 42 1 41,mV 43 6,⟨(some 44),none,.nilchk (.t 43)⟩,mF 45 7 44,mL 46 1 45,mV 8 42,mV 9 46] [mV 39 6,⟨(some 40),none,.nilchk (.t 39)⟩,mF 41 6 40,mL 42 1 41,mV 43 6,⟨(some 44),none,.nilchk (.t 43)⟩,mF 45 7 44,mL 46 1 45,mV 8 42,mV 9 46] (Q .normal) s:=Tr (by kernel_rfl) gl Q s
def ze:List O:=[mV 47 6,mV 48 6,mV 49 6,mV 50 6,mV 51 6,mV 52 6,mV 53 6,mG 54 2 7,⟨(some 55),none,.nilchk (.t 47)⟩,mF 56 3 55,⟨none,none,.store 1 (.t 56) (.c (.int .i64 2))⟩,⟨(some 57),none,.nilchk (.t 48)⟩,mF 58 4 57,mS 2 58 54,⟨(some 59),none,.nilchk (.t 49)⟩,mF 60 6 59,⟨none,none,.store 1 (.t 60) (.c (.nils))⟩,⟨(some 61),none,.nilchk (.t 50)⟩,mF 62 7 61,⟨none,none,.store 1 (.t 62) (.c (.nils))⟩,⟨(some 63),none,.nilchk (.t 51)⟩,mF 64 8 63,⟨none,none,.store 1 (.t 64) (.c (.int .i64 0))⟩,⟨(some 65),none,.nilchk (.t 52)⟩,mF 66 9 65,⟨none,none,.store 1 (.t 66) (.c (.int .i64 0))⟩,⟨(some 67),none,.nilchk (.t 53)⟩,mF 68 10 67,⟨none,none,.store 1 (.t 68) (.c (.int .i64 0))⟩]
def zK:List (List Nat):=[[],[],[],[],[],[],[],[],[0,0],[8,0],[9,0],[1,0,1,7,8,9,10],[11,0,1,7,8,9,10],[12,7,10,0,1,7,8,9,10],[2,0,1,2,7,8,9,10,11,12,13],[14,0,1,2,7,8,9,10,11,12,13],[15,13,0,1,2,7,8,9,10,11,12,13],[3,0,1,2,3,7,8,9,10,11,12,13,14,15,16],[17,0,1,2,3,7,8,9,10,11,12,13,14,15,16],[18,16,0,1,2,3,7,8,9,10,11,12,13,14,15,16],[4,0,1,2,3,4,7,8,9,10,11,12,13,14,15,16,17,18,19],[20,0,1,2,3,4,7,8,9,10,11,12,13,14,15,16,17,18,19],[21,19,0,1,2,3,4,7,8,9,10,11,12,13,14,15,16,17,18,19],[5,0,1,2,3,4,5,7,8,9,10,11,12,13,14,15,16,17,18,19,20,21,22],[23,0,1,2,3,4,5,7,8,9,10,11,12,13,14,15,16,17,18,19,20,21,22],[24,22,0,1,2,3,4,5,7,8,9,10,11,12,13,14,15,16,17,18,19,20,21,22],[6,0,1,2,3,4,5,6,7,8,9,10,11,12,13,14,15,16,17,18,19,20,21,22,23,24,25],[26,0,1,2,3,4,5,6,7,8,9,10,11,12,13,14,15,16,17,18,19,20,21,22,23,24,25],[27,25,0,1,2,3,4,5,6,7,8,9,10,11,12,13,14,15,16,17,18,19,20,21,22,23,24,25]]
theorem dO(gl:Gl)(Q:AE→St→Prop)(s:St):aw pQ Θ Γ gl (.regD ze zK) Q s=fy pQ Γ gl [mV 47 6,mV 48 6,mV 49 6,mV 50 6,mV 51 6,mV 52 6,mV 53 6,mG 54 2 7,⟨(some 55),none,.nilchk (.t 47)⟩,mF 56 3 55,⟨none,none,.store 1 (.t 56) (.c (.int .i64 2))⟩,⟨(some 57),none,.nilchk (.t 48)⟩,mF 58 4 57,mS 2 58 54,⟨(some 59),none,.nilchk (.t 49)⟩,mF 60 6 59,⟨none,none,.store 1 (.t 60) (.c (.nils))⟩,⟨(some 61),none,.nilchk (.t 50)⟩,mF 62 7 61,⟨none,none,.store 1 (.t 62) (.c (.nils))⟩,⟨(some 63),none,.nilchk (.t 51)⟩,mF 64 8 63,⟨none,none,.store 1 (.t 64) (.c (.int .i64 0))⟩,⟨(some 65),none,.nilchk (.t 52)⟩,mF 66 9 65,⟨none,none,.store 1 (.t 66) (.c (.int .i64 0))⟩,⟨(some 67),none,.nilchk (.t 53)⟩,mF 68 10 67,⟨none,none,.store 1 (.t 68) (.c (.int .i64 0))⟩] (Q .normal) 29 (.q 0 (.q 1 (.q 2 (.q 3 (.q 4 (.q 5 (.q 6 (.q 7 (.q 8 (.q 9 (.st 10 [7] (.q 11 (.q 12 (.q 13 (.q 14 (.q 15 (.q 16 (.q 17 (.q 18 (.q 19 (.q 20 (.q 21 (.q 22 (.q 23 (.q 24 (.q 25 (.q 26 (.q 27 (.q 28 (.done)))))))))))))))))))))))))))))) s:=qL rfl (by kernel_rfl) gl Q s
def zo:List O:=[mV 92 14,mV 93 14,⟨(some 94),none,.nilchk (.t 93)⟩,mF 95 7 94,mL 96 1 95,mG 97 2 13,⟨(some 98),none,.bsl 2 1 [.int .i64 0,.int .i64 0] [(0,.t 97)]⟩,⟨(some 99),none,.app 2 16 [.int .i64 0,.int .i64 0] false (.t 96) (.t 98)⟩,⟨(some 100),none,.nilchk (.t 92)⟩,mF 101 7 100,mS 1 101 99]
def Ab:List (List Nat):=[[],[],[1],[2],[3],[],[5],[4,6],[0,0,1,2,3,4,5,6,7],[8,0,1,2,3,4,5,6,7],[9,7,7,0,1,2,3,4,5,6,7]]
theorem dJ(gl:Gl)(Q:AE→St→Prop)(s:St):aw pQ Θ Γ gl (.regD zo Ab) Q s=fy pQ Γ gl [mV 92 14,mV 93 14,⟨(some 94),none,.nilchk (.t 93)⟩,mF 95 7 94,mL 96 1 95,mG 97 2 13,⟨(some 98),none,.bsl 2 1 [.int .i64 0,.int .i64 0] [(0,.t 97)]⟩,⟨(some 99),none,.app 2 16 [.int .i64 0,.int .i64 0] false (.t 96) (.t 98)⟩,⟨(some 100),none,.nilchk (.t 92)⟩,mF 101 7 100,mS 1 101 99] (Q .normal) 11 (.q 0 (.q 1 (.q 2 (.q 3 (.q 4 (.q 5 (.all [(6,.q 7 (.q 8 (.q 9 (.q 10 (.done)))))]))))))) s:=qL rfl (by kernel_rfl) gl Q s
def Ad:List O:=[mV 102 0,mF 103 0 13,mL 104 1 103,mF 105 1 13,mL 106 1 105,mV 107 0,mF 108 0 13,mL 109 1 108,mG 110 2 7,mC 111 Fn.ka5 [.t 107,.t 109,.t 110],⟨(some 112),none,.build [.int .i64 0,.int .i64 0,.int .i64 0,.int .i64 0,.str ⟨#[]⟩,.nils,.int .i64 0,.int .i64 0,.int .i64 0,.int .i64 0,.int .i64 0,.int .i64 0] [(0,1,.c (.int .i64 2)),(3,1,.t 106),(6,2,.t 111)]⟩,mC 113 Fn.U5 [.t 102,.t 104,.t 112]]
def zT:List (List Nat):=[[],[],[1],[],[3],[],[],[6],[],[5,7,8],[4,9],[0,2,10,9]]
theorem dC(gl:Gl)(Q:AE→St→Prop)(s:St):aw pQ Θ Γ gl (.regD Ad zT) Q s=fy pQ Γ gl [mV 102 0,mF 103 0 13,mL 104 1 103,mF 105 1 13,mL 106 1 105,mV 107 0,mF 108 0 13,mL 109 1 108,mG 110 2 7,mC 111 Fn.ka5 [.t 107,.t 109,.t 110],⟨(some 112),none,.build [.int .i64 0,.int .i64 0,.int .i64 0,.int .i64 0,.str ⟨#[]⟩,.nils,.int .i64 0,.int .i64 0,.int .i64 0,.int .i64 0,.int .i64 0,.int .i64 0] [(0,1,.c (.int .i64 2)),(3,1,.t 106),(6,2,.t 111)]⟩,mC 113 Fn.U5 [.t 102,.t 104,.t 112]] (Q .normal) 12 (.q 0 (.q 1 (.q 2 (.q 3 (.q 4 (.q 5 (.q 6 (.q 7 (.q 8 (.st 9 [103,105] (.q 10 (.q 11 (.done))))))))))))) s:=qL rfl (by kernel_rfl) gl Q s
def OF:C:=.seq (.reg [mA 5 2]) (.seq (.reg [mV 15 0,mV 16 1,mC 17 Fn.Ug [.t 16],mC 18 Fn.Ue [.t 15,.t 17],mV 6 18]) (.seq (.seq (.reg [mV 19 6,⟨(some 20),none,.bin .eql (.nilp) (.t 19) (.c (.nilp))⟩]) (.cond (.t 20) .ret .skip)) (.seq (.reg [mV 21 0,mG 22 2 5,mC 23 Fn.Uh [.t 21,.t 22],⟨(some 7),none,.alloc [.int .i64 0,.int .i64 0]⟩,mS 2 7 23]) (.seq (.seq (.regD zy Ac) (.cond (.t 37) (.reg [mC 38 Fn.kaa [],mS 2 7 38]) .skip)) (.seq (.regD zY zu) (.seq (.regD ze zK) (.seq (.seq (.reg [mV 69 8,mN 70 69,mK 71 0]) (.block 0 (.loop (.seq (.reg [mB 72 .lss 71 70]) (.seq (.cond (.t 72) .skip (.exit 0)) (.seq (.block 1 (.seq (.reg [mX 73 7 69 71,mG 74 7 73,⟨(some 11),none,.alloc [.int .i64 0,.str ⟨#[]⟩,.nils,.int .i64 0,.int .i64 0,.int .i64 0,.int .i64 0]⟩,mS 7 11 74]) (.reg [mV 75 0,mG 76 7 11,mC 77 Fn.kaN [.t 75,.t 76]]))) (.reg [mI 78 .add 71 1,mV 71 78]))))))) (.seq (.reg [mV 79 9,mN 80 79,mK 81 0]) (.block 2 (.loop (.seq (.reg [mB 82 .lss 81 80]) (.seq (.cond (.t 82) .skip (.exit 2)) (.seq (.block 3 (.seq (.reg [mX 83 2 79 81,mG 84 2 83,⟨(some 13),none,.alloc [.int .i64 0,.int .i64 0]⟩,mS 2 13 84]) (.seq (.seq (.reg [mV 85 0,mV 86 0,mG 87 2 7,mC 88 Fn.Uh [.t 86,.t 87],mC 89 Fn.Ue [.t 85,.t 88],mV 14 89]) (.seq (.reg [mV 90 14,⟨(some 91),none,.bin .neq (.nilp) (.t 90) (.c (.nilp))⟩]) (.cond (.t 91) (.seq (.regD zo Ab) (.exit 3)) .skip))) (.regD Ad zT)))) (.reg [mI 114 .add 81 1,mV 81 114]))))))))))))))
def kh:List RS:=[]
def D7(t0 t7 t9 t69 t70 t71:AV)(loc:List (List AV))(h:AH):St:=⟨[t0,zz,zz,zz,zz,zz,zz,t7,zz,t9,zz,zz,zz,zz,zz,zz,zz,zz,zz,zz,zz,zz,zz,zz,zz,zz,zz,zz,zz,zz,zz,zz,zz,zz,zz,zz,zz,zz,zz,zz,zz,zz,zz,zz,zz,zz,zz,zz,zz,zz,zz,zz,zz,zz,zz,zz,zz,zz,zz,zz,zz,zz,zz,zz,zz,zz,zz,zz,zz,t69,t70,t71,zz,zz,zz,zz,zz,zz,zz,zz,zz,zz,zz,zz,zz,zz,zz,zz,zz,zz,zz,zz,zz,zz,zz,zz,zz,zz,zz,zz,zz,zz,zz,zz,zz,zz,zz,zz,zz,zz,zz,zz,zz,zz,zz],loc,h⟩
def Bm(t0 t7 t79 t80 t81:AV)(loc:List (List AV))(h:AH):St:=⟨[t0,zz,zz,zz,zz,zz,zz,t7,zz,zz,zz,zz,zz,zz,zz,zz,zz,zz,zz,zz,zz,zz,zz,zz,zz,zz,zz,zz,zz,zz,zz,zz,zz,zz,zz,zz,zz,zz,zz,zz,zz,zz,zz,zz,zz,zz,zz,zz,zz,zz,zz,zz,zz,zz,zz,zz,zz,zz,zz,zz,zz,zz,zz,zz,zz,zz,zz,zz,zz,zz,zz,zz,zz,zz,zz,zz,zz,zz,zz,t79,t80,t81,zz,zz,zz,zz,zz,zz,zz,zz,zz,zz,zz,zz,zz,zz,zz,zz,zz,zz,zz,zz,zz,zz,zz,zz,zz,zz,zz,zz,zz,zz,zz,zz,zz],loc,h⟩
theorem ka4_e(hw:TC pQ Θ Γ OF (aV kh K) ⟨a0::a1::a2::u8 (u8 (u8 (u8 (u8 (u8 (u8 (u8 (u8 (u8 (u8 (u8 (u8 (u8 []))))))))))))),[],h⟩):T pQ Γ Fn.ka4 [a0,a1,a2] h K:=
 TB Tryz.func187 (aH Tryz.f187) hw
noncomputable def Qc:=CF Tryz.f188 R0
def Dm:List RS:=[.t 2]
theorem Vw(hw:TC pQ Θ Γ Qc.1 (aV Dm K) ⟨a0::u8 (u8 [u,u,u,u,u,u,u]),[],h⟩):T pQ Γ Fn.kb3 [a0] h K:=
 TB Tryz.func188 (aH Tryz.f188) hw
noncomputable def N3:=CF Tryz.f189 R0
def Ko:List RS:=[.t 2]
theorem XC(hw:TC pQ Θ Γ N3.1 (aV Ko K) ⟨[a0,u,u,u,u],[],h⟩):T pQ Γ Fn.kcu [a0] h K:=
 TB Tryz.func189 (aH Tryz.f189) hw
noncomputable def Qw:=CF Tryz.f190 R0
def Al:List RS:=[.t 2]
def Ej(t0 t3:AV)(loc:List (List AV))(h:AH):St:=⟨[t0,zz,zz,t3,zz,zz,zz,zz,zz,zz,zz,zz,zz,zz,zz,zz,zz,zz,zz,zz,zz,zz,zz],loc,h⟩
theorem ZH(hw:TC pQ Θ Γ Qw.1 (aV Al K) ⟨a0::u8 (u8 [u,u,u,u,u,u]),[],h⟩):T pQ Γ Fn.kbZ [a0] h K:=
 TB Tryz.func190 (aH Tryz.f190) hw
noncomputable def QN:=CF Tryz.f191 R0
def CE:List RS:=[.t 4]
def DX(t0 t1 t5:AV)(loc:List (List AV))(h:AH):St:=⟨[t0,t1,zz,zz,zz,t5,zz,zz,zz,zz,zz,zz,zz,zz,zz,zz,zz,zz,zz,zz,zz,zz,zz,zz],loc,h⟩
theorem VY(hw:TC pQ Θ Γ QN.1 (aV CE K) ⟨a0::a1::u8 (u8 [u,u,u,u,u,u]),[],h⟩):T pQ Γ Fn.kbV [a0,a1] h K:=
 TB Tryz.func191 (aH Tryz.f191) hw
noncomputable def SG:=CF Tryz.f192 R0
def PE:List RS:=[.cell 0 2 true]
theorem Yf(hw:TC pQ Θ Γ SG.1 (aV PE K) ⟨[u,u],[],h⟩):T pQ Γ Fn.Uk [] h K:=
 TB Tryz.func192 (aH Tryz.f192) hw
noncomputable def Tf:=CF Tryz.f193 R0
def C0:List RS:=[.t 4]
def D6(t1 t2 t5:AV)(loc:List (List AV))(h:AH):St:=⟨[zz,t1,t2,zz,zz,t5,zz,zz,zz,zz,zz,zz,zz,zz,zz,zz,zz,zz,zz,zz,zz,zz,zz,zz,zz,zz,zz],loc,h⟩
theorem Wi(hw:TC pQ Θ Γ Tf.1 (aV C0 K) ⟨a0::a1::u8 (u8 (u8 [u])),[],h⟩):T pQ Γ Fn.kbW [a0,a1] h K:=
 TB Tryz.func193 (aH Tryz.f193) hw
noncomputable def Q6:=CF Tryz.f194 R0
def u7:List RS:=[.cell 4 2 true]
def Ee(t2 t3 t4 t5:AV)(loc:List (List AV))(h:AH):St:=⟨[zz,zz,t2,t3,t4,t5,zz,zz,zz,zz,zz,zz,zz,zz,zz,zz,zz,zz,zz,zz,zz,zz,zz,zz,zz,zz,zz,zz,zz,zz,zz,zz,zz,zz,zz,zz,zz,zz,zz,zz,zz,zz,zz,zz,zz,zz],loc,h⟩
theorem Xk(hw:TC pQ Θ Γ Q6.1 (aV u7 K) ⟨a0::a1::u8 (u8 (u8 (u8 (u8 [u,u,u,u])))),[],h⟩):T pQ Γ Fn.El [a0,a1] h K:=
 TB Tryz.func194 (aH Tryz.f194) hw
noncomputable def Su:=CF Tryz.f195 R0
def Aj:List RS:=[.t 6]
def GF(t1 t2 t3 t7:AV)(loc:List (List AV))(h:AH):St:=⟨[zz,t1,t2,t3,zz,zz,zz,t7,zz,zz,zz,zz,zz,zz,zz,zz,zz,zz,zz,zz,zz,zz,zz,zz,zz,zz,zz,zz,zz,zz,zz,zz,zz,zz,zz,zz,zz],loc,h⟩
theorem V9(hw:TC pQ Θ Γ Su.1 (aV Aj K) ⟨a0::a1::a2::u8 (u8 (u8 (u8 [u,u]))),[],h⟩):T pQ Γ Fn.kcc [a0,a1,a2] h K:=
 TB Tryz.func195 (aH Tryz.f195) hw
noncomputable def tN:=CR Tryz.f196 0
theorem Cj:QT Γ Tryz.f196 0 tN.1 11 (qs [0,1,2,3,4,5] (.all [(6,qs [7,8,9,10] .done)])):=qt tN.2
noncomputable def NX:=CF Tryz.f196 (RG Tryz.f196)
def HP:List RS:=[.t 4]
theorem kcB_e(hw:TC pQ Θ Γ NX.1 (aV HP K) ⟨a0::a1::u8 (u8 (u8 [u])),[],h⟩):T pQ Γ Fn.kcB [a0,a1] h K:=
 TB Tryz.func196 (aH Tryz.f196) hw
def zU:List O:=[mV 33 0,⟨(some 34),none,.nilchk (.t 33)⟩,mG 35 5 34,mG 36 2 5,mC 37 Fn.El [.t 35,.t 36],⟨(some 6),none,.alloc [.int .i64 0,.int .i64 0]⟩,mS 2 6 37]
def zw:List (List Nat):=[[],[0],[1],[],[2,3],[],[5,4,4,0,1,2,3,4,5]]
theorem cu(gl:Gl)(Q:AE→St→Prop)(s:St):aw pQ Θ Γ gl (.regD zU zw) Q s=fy pQ Γ gl [mV 33 0,⟨(some 34),none,.nilchk (.t 33)⟩,mG 35 5 34,mG 36 2 5,mC 37 Fn.El [.t 35,.t 36],⟨(some 6),none,.alloc [.int .i64 0,.int .i64 0]⟩,mS 2 6 37] (Q .normal) 7 (.q 0 (.q 1 (.q 2 (.q 3 (.all [(4,.all [(5,.q 6 (.done))]),(5,.all [(4,.q 6 (.done))])]))))) s:=qL rfl (by kernel_rfl) gl Q s
def zm:List O:=[mG 38 2 6,mV 39 0,⟨(some 40),none,.nilchk (.t 39)⟩,mF 41 1 40,mL 42 1 41,mN 43 42,mC 44 Fn.kb2 [.t 38,.t 43],mU 45 44,mV 46 45,⟨(some 47),(some (8,false)),.load 2 true (.t 6)⟩,⟨(some 48),(some (8,false)),.mov (.t 1)⟩,⟨(some 49),(some (8,false)),.call (.c (.fn Fn.Ts [] [])) [.t 48]⟩,⟨(some 50),(some (8,false)),.bin .eql (.agg [.int .i64,.int .i64]) (.t 47) (.t 49)⟩,⟨(some 51),none,.pick (.t 46) (.c (.bool true)) (.t 50)⟩]
def zl:List (List Nat):=[[],[],[1],[2],[3],[4],[0,5],[6],[7,6],[8],[8],[10,8,8],[9,11,8],[8,12]]
theorem cw(gl:Gl)(Q:AE→St→Prop)(s:St):aw pQ Θ Γ gl (.regD zm zl) Q s=fy pQ Γ gl [mG 38 2 6,mV 39 0,⟨(some 40),none,.nilchk (.t 39)⟩,mF 41 1 40,mL 42 1 41,mN 43 42,mC 44 Fn.kb2 [.t 38,.t 43],mU 45 44,mV 46 45,⟨(some 47),(some (8,false)),.load 2 true (.t 6)⟩,⟨(some 48),(some (8,false)),.mov (.t 1)⟩,⟨(some 49),(some (8,false)),.call (.c (.fn Fn.Ts [] [])) [.t 48]⟩,⟨(some 50),(some (8,false)),.bin .eql (.agg [.int .i64,.int .i64]) (.t 47) (.t 49)⟩,⟨(some 51),none,.pick (.t 46) (.c (.bool true)) (.t 50)⟩] (Q .normal) 14 (.q 0 (.q 1 (.q 2 (.q 3 (.q 4 (.q 5 (.q 6 (.q 7 (.q 8 (.q 9 (.q 10 (.st 11 [6] (.q 12 (.q 13 (.done))))))))))))))) s:=qL rfl (by kernel_rfl) gl Q s
def vN:List O:=[mV 71 0,⟨(some 72),none,.nilchk (.t 71)⟩,mF 73 1 72,mL 74 1 73,mV 75 1,mG 76 12 8,mX 77 12 74 75,mS 12 77 76]
def we:List (List Nat):=[[],[0],[1],[2],[],[],[3,4,0,1,2,3,4,5],[6,5,0,1,2,3,4,5]]
theorem cC(gl:Gl)(Q:AE→St→Prop)(s:St):aw pQ Θ Γ gl (.regD vN we) Q s=fy pQ Γ gl [mV 71 0,⟨(some 72),none,.nilchk (.t 71)⟩,mF 73 1 72,mL 74 1 73,mV 75 1,mG 76 12 8,mX 77 12 74 75,mS 12 77 76] (Q .normal) 8 (.q 0 (.q 1 (.q 2 (.q 3 (.q 4 (.q 5 (.q 6 (.q 7 (.done))))))))) s:=qL rfl (by kernel_rfl) gl Q s
def wm:List O:=[mV 99 0,⟨(some 100),none,.nilchk (.t 99)⟩,mG 101 5 100,mG 102 2 6,mC 103 Fn.El [.t 101,.t 102],⟨(some 11),none,.alloc [.int .i64 0,.int .i64 0]⟩,mS 2 11 103]
def wj:List (List Nat):=[[],[0],[1],[],[2,3],[],[5,4,4,0,1,2,3,4,5]]
theorem cB(gl:Gl)(Q:AE→St→Prop)(s:St):aw pQ Θ Γ gl (.regD wm wj) Q s=fy pQ Γ gl [mV 99 0,⟨(some 100),none,.nilchk (.t 99)⟩,mG 101 5 100,mG 102 2 6,mC 103 Fn.El [.t 101,.t 102],⟨(some 11),none,.alloc [.int .i64 0,.int .i64 0]⟩,mS 2 11 103] (Q .normal) 7 (.q 0 (.q 1 (.q 2 (.q 3 (.all [(4,.all [(5,.q 6 (.done))]),(5,.all [(4,.q 6 (.done))])]))))) s:=qL rfl (by kernel_rfl) gl Q s
def wo:List O:=[mV 107 0,⟨(some 108),none,.nilchk (.t 107)⟩,mF 109 1 108,mL 110 1 109,mF 111 1 11,mL 112 1 111,mV 113 0,⟨(some 114),none,.nilchk (.t 113)⟩,mF 115 1 114,mL 116 1 115,mF 117 1 11,mL 118 1 117,mX 119 12 116 118,mF 120 7 119,mL 121 1 120,mF 122 7 7,mL 123 1 122,mV 124 10,mX 125 2 123 124,mG 126 2 125,⟨(some 127),none,.bsl 2 1 [.int .i64 0,.int .i64 0] [(0,.t 126)]⟩,⟨(some 128),none,.app 2 16 [.int .i64 0,.int .i64 0] false (.t 121) (.t 127)⟩,mX 129 12 110 112,mF 130 7 129,mS 1 130 128]
def vX:List (List Nat):=[[],[0],[1],[2],[],[4],[],[6],[7],[8],[],[10],[9,11],[12],[13],[],[15],[],[16,17],[18],[19],[14,20],[3,5,0,1,2,3,4,5,6,7,8,9,10,11,12,13,14,15,16,17,18,19,20,21],[22,0,1,2,3,4,5,6,7,8,9,10,11,12,13,14,15,16,17,18,19,20,21],[23,21,21,0,1,2,3,4,5,6,7,8,9,10,11,12,13,14,15,16,17,18,19,20,21]]
theorem cq(gl:Gl)(Q:AE→St→Prop)(s:St):aw pQ Θ Γ gl (.regD wo vX) Q s=fy pQ Γ gl [mV 107 0,⟨(some 108),none,.nilchk (.t 107)⟩,mF 109 1 108,mL 110 1 109,mF 111 1 11,mL 112 1 111,mV 113 0,⟨(some 114),none,.nilchk (.t 113)⟩,mF 115 1 114,mL 116 1 115,mF 117 1 11,mL 118 1 117,mX 119 12 116 118,mF 120 7 119,mL 121 1 120,mF 122 7 7,mL 123 1 122,mV 124 10,mX 125 2 123 124,mG 126 2 125,⟨(some 127),none,.bsl 2 1 [.int .i64 0,.int .i64 0] [(0,.t 126)]⟩,⟨(some 128),none,.app 2 16 [.int .i64 0,.int .i64 0] false (.t 121) (.t 127)⟩,mX 129 12 110 112,mF 130 7 129,mS 1 130 128] (Q .normal) 25 (.q 0 (.q 1 (.q 2 (.q 3 (.q 4 (.q 5 (.q 6 (.q 7 (.q 8 (.q 9 (.q 10 (.q 11 (.q 12 (.q 13 (.q 14 (.q 15 (.q 16 (.q 17 (.q 18 (.q 19 (.all [(20,.st 21 [109,111] (.q 22 (.q 23 (.q 24 (.done)))))]))))))))))))))))))))) s:=qL rfl (by kernel_rfl) gl Q s
def tB:List O:=[mV 131 0,mF 132 7 7,mL 133 1 132,mV 134 10,mX 135 2 133 134,mF 136 0 135,mL 137 1 136,mG 138 2 11,mC 139 Fn.Xm [.t 131,.t 137,.t 138],⟨(some 12),none,.alloc [.int .i64 0,.int .i64 0]⟩,mS 2 12 139]
def wJ:List (List Nat):=[[],[],[1],[],[2,3],[4],[5],[],[0,6,7],[],[9,8,8,0,1,2,3,4,5,6,7,8,9]]
theorem cr(gl:Gl)(Q:AE→St→Prop)(s:St):aw pQ Θ Γ gl (.regD tB wJ) Q s=fy pQ Γ gl [mV 131 0,mF 132 7 7,mL 133 1 132,mV 134 10,mX 135 2 133 134,mF 136 0 135,mL 137 1 136,mG 138 2 11,mC 139 Fn.Xm [.t 131,.t 137,.t 138],⟨(some 12),none,.alloc [.int .i64 0,.int .i64 0]⟩,mS 2 12 139] (Q .normal) 11 (.q 0 (.q 1 (.q 2 (.q 3 (.q 4 (.q 5 (.q 6 (.q 7 (.all [(8,.all [(9,.q 10 (.done))]),(9,.all [(8,.q 10 (.done))])]))))))))) s:=qL rfl (by kernel_rfl) gl Q s
def wP:List O:=[mV 140 0,mF 141 7 7,mL 142 1 141,mV 143 10,mX 144 2 142 143,mF 145 0 144,mL 146 1 145,mF 147 7 7,mL 148 1 147,mV 149 10,mX 150 2 148 149,mF 151 1 150,mL 152 1 151,mG 153 2 12,⟨(some 154),none,.build [.int .i64 0,.int .i64 0,.int .i64 0,.int .i64 0,.str ⟨#[]⟩,.nils,.int .i64 0,.int .i64 0,.int .i64 0,.int .i64 0,.int .i64 0,.int .i64 0] [(0,1,.c (.int .i64 2)),(3,1,.t 152),(6,2,.t 153)]⟩,mC 155 Fn.TL [.t 140,.t 146,.t 154]]
def wT:List (List Nat):=[[],[],[1],[],[2,3],[4],[5],[],[7],[],[8,9],[10],[11],[],[12,13],[0,6,14]]
theorem cD(gl:Gl)(Q:AE→St→Prop)(s:St):aw pQ Θ Γ gl (.regD wP wT) Q s=fy pQ Γ gl [mV 140 0,mF 141 7 7,mL 142 1 141,mV 143 10,mX 144 2 142 143,mF 145 0 144,mL 146 1 145,mF 147 7 7,mL 148 1 147,mV 149 10,mX 150 2 148 149,mF 151 1 150,mL 152 1 151,mG 153 2 12,⟨(some 154),none,.build [.int .i64 0,.int .i64 0,.int .i64 0,.int .i64 0,.str ⟨#[]⟩,.nils,.int .i64 0,.int .i64 0,.int .i64 0,.int .i64 0,.int .i64 0,.int .i64 0] [(0,1,.c (.int .i64 2)),(3,1,.t 152),(6,2,.t 153)]⟩,mC 155 Fn.TL [.t 140,.t 146,.t 154]] (Q .normal) 16 (.q 0 (.q 1 (.q 2 (.q 3 (.q 4 (.q 5 (.q 6 (.q 7 (.q 8 (.q 9 (.q 10 (.q 11 (.q 12 (.q 13 (.q 14 (.q 15 (.done))))))))))))))))) s:=qL rfl (by kernel_rfl) gl Q s
def P6:C:=.seq (.reg [mA 5 2]) (.seq (.seq (.reg [mV 13 1,mV 14 0,⟨(some 15),none,.nilchk (.t 14)⟩,mF 16 1 15,mL 17 1 16,mN 18 17,mI 19 .sub 18 1,mC 20 Fn.xG [.t 13,.c (.int .i64 0),.t 19],mU 21 20,mV 22 21,⟨(some 23),(some (9,false)),.mov (.t 0)⟩,⟨(some 24),(some (9,false)),.nilchk (.t 23)⟩,⟨(some 25),(some (9,false)),.fld 1 (.t 24)⟩,⟨(some 26),(some (9,false)),.load 1 false (.t 25)⟩,⟨(some 27),(some (9,false)),.mov (.t 1)⟩,⟨(some 28),(some (9,false)),.idxs 12 (.t 26) (.t 27)⟩,⟨(some 29),(some (9,false)),.load 12 true (.t 28)⟩,⟨(some 30),(some (9,false)),.call (.c (.fn Fn.kb0 [] [])) [.t 29]⟩,⟨(some 31),(some (9,false)),.un .not (.t 30)⟩,⟨(some 32),none,.pick (.t 22) (.c (.bool true)) (.t 31)⟩]) (.cond (.t 32) .ret .skip)) (.seq (.regD zU zw) (.seq (.seq (.regD zm zl) (.cond (.t 51) (.reg [mC 52 Fn.Uk [],mS 2 6 52]) .skip)) (.seq (.reg [mV 53 0,⟨(some 54),none,.nilchk (.t 53)⟩,mF 55 1 54,mL 56 1 55,mV 57 1,mX 58 12 56 57,mG 59 12 58,⟨(some 7),none,.alloc [.int .i64 0,.int .i64 0,.nils,.int .i64 0,.int .i64 0,.int .i64 0,.nils,.nils,.int .i64 0,.int .i64 0,.int .i64 0,.int .i64 0]⟩,mS 12 7 59]) (.seq (.reg [mG 60 12 7,⟨(some 8),none,.alloc [.int .i64 0,.int .i64 0,.nils,.int .i64 0,.int .i64 0,.int .i64 0,.nils,.nils,.int .i64 0,.int .i64 0,.int .i64 0,.int .i64 0]⟩,mS 12 8 60]) (.seq (.reg [mF 61 3 8,⟨none,none,.store 1 (.t 61) (.c (.int .i64 2))⟩]) (.seq (.reg [mG 62 2 6,mF 63 4 8,mS 2 63 62]) (.seq (.reg [⟨(some 64),none,.bsl 7 0 [.int .i64 0,.str ⟨#[]⟩,.nils,.int .i64 0,.int .i64 0,.int .i64 0,.int .i64 0] []⟩,mF 65 6 8,mS 1 65 64]) (.seq (.reg [⟨(some 66),none,.bsl 2 0 [.int .i64 0,.int .i64 0] []⟩,mF 67 7 8,mS 1 67 66]) (.seq (.reg [mF 68 8 8,⟨none,none,.store 1 (.t 68) (.c (.int .i64 0))⟩]) (.seq (.reg [mF 69 9 8,⟨none,none,.store 1 (.t 69) (.c (.int .i64 0))⟩]) (.seq (.reg [mF 70 10 8,⟨none,none,.store 1 (.t 70) (.c (.int .i64 0))⟩]) (.seq (.regD vN we) (.seq (.seq (.reg [mK 9 0]) (.block 0 (.loop (.seq (.seq (.reg [mV 78 9,mF 79 6 7,mL 80 1 79,mN 81 80,mB 82 .lss 78 81]) (.cond (.t 82) .skip (.exit 0))) (.seq (.block 1 (.reg [mV 85 0,mF 86 6 7,mL 87 1 86,mV 88 9,mX 89 7 87 88,mG 90 7 89,mC 91 Fn.Tv [.t 85,.t 90]])) (.reg [mV 83 9,mI 84 .add 83 1,mV 9 84])))))) (.seq (.reg [mK 10 0]) (.block 2 (.loop (.seq (.seq (.reg [mV 92 10,mF 93 7 7,mL 94 1 93,mN 95 94,mB 96 .lss 92 95]) (.cond (.t 96) .skip (.exit 2))) (.seq (.block 3 (.seq (.regD wm wj) (.seq (.seq (.reg [mV 104 0,mG 105 2 11,mC 106 Fn.U7 [.t 104,.t 105]]) (.cond (.t 106) (.seq (.regD wo vX) (.exit 3)) .skip)) (.seq (.regD tB wJ) (.regD wP wT))))) (.reg [mV 97 10,mI 98 .add 97 1,mV 10 98]))))))))))))))))))))
def il:List RS:=[]
def Ew(t0 t6 t7 t9:AV)(loc:List (List AV))(h:AH):St:=⟨[t0,zz,zz,zz,zz,zz,t6,t7,zz,t9,zz,zz,zz,zz,zz,zz,zz,zz,zz,zz,zz,zz,zz,zz,zz,zz,zz,zz,zz,zz,zz,zz,zz,zz,zz,zz,zz,zz,zz,zz,zz,zz,zz,zz,zz,zz,zz,zz,zz,zz,zz,zz,zz,zz,zz,zz,zz,zz,zz,zz,zz,zz,zz,zz,zz,zz,zz,zz,zz,zz,zz,zz,zz,zz,zz,zz,zz,zz,zz,zz,zz,zz,zz,zz,zz,zz,zz,zz,zz,zz,zz,zz,zz,zz,zz,zz,zz,zz,zz,zz,zz,zz,zz,zz,zz,zz,zz,zz,zz,zz,zz,zz,zz,zz,zz,zz,zz,zz,zz,zz,zz,zz,zz,zz,zz,zz,zz,zz,zz,zz,zz,zz,zz,zz,zz,zz,zz,zz,zz,zz,zz,zz,zz,zz,zz,zz,zz,zz,zz,zz,zz,zz,zz,zz,zz,zz],loc,h⟩
def BM(t0 t6 t7 t10:AV)(loc:List (List AV))(h:AH):St:=⟨[t0,zz,zz,zz,zz,zz,t6,t7,zz,zz,t10,zz,zz,zz,zz,zz,zz,zz,zz,zz,zz,zz,zz,zz,zz,zz,zz,zz,zz,zz,zz,zz,zz,zz,zz,zz,zz,zz,zz,zz,zz,zz,zz,zz,zz,zz,zz,zz,zz,zz,zz,zz,zz,zz,zz,zz,zz,zz,zz,zz,zz,zz,zz,zz,zz,zz,zz,zz,zz,zz,zz,zz,zz,zz,zz,zz,zz,zz,zz,zz,zz,zz,zz,zz,zz,zz,zz,zz,zz,zz,zz,zz,zz,zz,zz,zz,zz,zz,zz,zz,zz,zz,zz,zz,zz,zz,zz,zz,zz,zz,zz,zz,zz,zz,zz,zz,zz,zz,zz,zz,zz,zz,zz,zz,zz,zz,zz,zz,zz,zz,zz,zz,zz,zz,zz,zz,zz,zz,zz,zz,zz,zz,zz,zz,zz,zz,zz,zz,zz,zz,zz,zz,zz,zz,zz,zz],loc,h⟩
set_option maxRecDepth 10000 in
theorem ZM(hw:TC pQ Θ Γ P6 (aV il K) ⟨a0::a1::a2::u8 (u8 (u8 (u8 (u8 (u8 (u8 (u8 (u8 (u8 (u8 (u8 (u8 (u8 (u8 (u8 (u8 (u8 (u8 [u])))))))))))))))))),[],h⟩):T pQ Γ Fn.kcJ [a0,a1,a2] h K:=
 TB Tryz.func197 (aH Tryz.f197) hw
noncomputable def NV:=CF Tryz.f198 R0
def Ij:List RS:=[.t 2]
theorem Ye(hw:TC pQ Θ Γ NV.1 (aV Ij K) ⟨a0::u8 [u],[],h⟩):T pQ Γ Fn.kbd [a0] h K:=
 TB Tryz.func198 (aH Tryz.f198) hw
noncomputable def qV:=CR Tryz.f199 0
theorem xI:QT Γ Tryz.f199 0 qV.1 9 (qs [0,1,2,3,4,5,6,7,8] .done):=qt qV.2
noncomputable def Sg:=CF Tryz.f199 (RG Tryz.f199)
def E8:List RS:=[.t 4]
theorem Xg(hw:TC pQ Θ Γ Sg.1 (aV E8 K) ⟨a0::a1::u8 (u8 [u,u,u]),[],h⟩):T pQ Γ Fn.kbi [a0,a1] h K:=
 TB Tryz.func199 (aH Tryz.f199) hw
noncomputable def qW:=CR Tryz.f200 0
theorem xJ:QT Γ Tryz.f200 0 qW.1 7 (qs [0,1,2,3,4,5,6] .done):=qt qW.2
noncomputable def qO:=CR Tryz.f200 1
theorem ye:QT Γ Tryz.f200 1 qO.1 8 (qs [0,1,2,3,4,5,6,7] .done):=qt qO.2
noncomputable def PZ:=CF Tryz.f200 (RG Tryz.f200)
def Fs:List RS:=[.t 4]
theorem U3(hw:TC pQ Θ Γ PZ.1 (aV Fs K) ⟨a0::a1::u8 (u8 [u,u,u]),[],h⟩):T pQ Γ Fn.kbm [a0,a1] h K:=
 TB Tryz.func200 (aH Tryz.f200) hw
noncomputable def Oy:=CF Tryz.f201 R0
def P4:List RS:=[.cell 0 12 true]
theorem Y7(hw:TC pQ Θ Γ Oy.1 (aV P4 K) ⟨[u,u],[],h⟩):T pQ Γ Fn.kaB [] h K:=
 TB Tryz.func201 (aH Tryz.f201) hw
noncomputable def PA:=CF Tryz.f202 R0
def DA:List RS:=[.t 6]
def Ef(t0 t1 t7 t11 t12 t13:AV)(loc:List (List AV))(h:AH):St:=⟨[t0,t1,zz,zz,zz,zz,zz,t7,zz,zz,zz,t11,t12,t13,zz,zz,zz,zz,zz,zz,zz,zz,zz,zz,zz,zz],loc,h⟩
theorem Wq(hw:TC pQ Θ Γ PA.1 (aV DA K) ⟨a0::a1::a2::u8 (u8 [u,u,u,u,u,u,u]),[],h⟩):T pQ Γ Fn.kaS [a0,a1,a2] h K:=
 TB Tryz.func202 (aH Tryz.f202) hw
noncomputable def ic:=CR Tryz.f203 0
theorem jT:QT Γ Tryz.f203 0 ic.1 11 (qs [0,1,2,3,4,5] (.all [(6,qs [7,8,9,10] .done)])):=qt ic.2
noncomputable def hB:=CR Tryz.f203 1
theorem jL:QT Γ Tryz.f203 1 hB.1 11 (qs [0,1,2,3,4,5,6,7,8,9,10] .done):=qt hB.2
noncomputable def hY:=CR Tryz.f203 2
theorem jE:QT Γ Tryz.f203 2 hY.1 8 (qs [0,1,2,3,4,5,6,7] .done):=qt hY.2
noncomputable def hM:=CR Tryz.f203 3
theorem jP:QT Γ Tryz.f203 3 hM.1 11 (qs [0,1,2,3,4,5] (.all [(6,qs [7,8,9,10] .done)])):=qt hM.2
noncomputable def PC:=CF Tryz.f203 (RG Tryz.f203)
def qB:List RS:=[]
theorem YY(hw:TC pQ Θ Γ PC.1 (aV qB K) ⟨a0::a1::u8 (u8 (u8 (u8 (u8 (u8 (u8 (u8 (u8 (u8 (u8 (u8 (u8 [u])))))))))))),[],h⟩):T pQ Γ Fn.kaN [a0,a1] h K:=
 TB Tryz.func203 (aH Tryz.f203) hw
noncomputable def oK:=CR Tryz.f204 0
theorem tF:QT Γ Tryz.f204 0 oK.1 9 (qs [0,1,2,3,4,5,6,7,8] .done):=qt oK.2
noncomputable def oO:=CR Tryz.f204 1
theorem tW:QT Γ Tryz.f204 1 oO.1 10 (qs [0,1,2,3,4,5,6,7,8,9] .done):=qt oO.2
noncomputable def NO:=CF Tryz.f204 (RG Tryz.f204)
def B5:List RS:=[.t 6]
theorem Yo(hw:TC pQ Θ Γ NO.1 (aV B5 K) ⟨a0::a1::a2::u8 (u8 (u8 [u,u,u,u,u,u])),[],h⟩):T pQ Γ Fn.kco [a0,a1,a2] h K:=
 TB Tryz.func204 (aH Tryz.f204) hw
noncomputable def Rt:=CF Tryz.f205 R0
def Dq:List RS:=[.t 4]
theorem UY(hw:TC pQ Θ Γ Rt.1 (aV Dq K) ⟨a0::a1::u8 (u8 [u,u,u,u,u]),[],h⟩):T pQ Γ Fn.kcP [a0,a1] h K:=
 TB Tryz.func205 (aH Tryz.f205) hw
noncomputable def Tj:=CF Tryz.f206 R0
def Dl:List RS:=[.t 6]
def EG(t0 t1 t2 t7 t8:AV)(loc:List (List AV))(h:AH):St:=⟨[t0,t1,t2,zz,zz,zz,zz,t7,t8,zz,zz,zz,zz,zz,zz,zz,zz,zz,zz,zz,zz,zz,zz,zz,zz,zz,zz],loc,h⟩
theorem YT(hw:TC pQ Θ Γ Tj.1 (aV Dl K) ⟨a0::a1::a2::u8 (u8 (u8 [])),[],h⟩):T pQ Γ Fn.kcA [a0,a1,a2] h K:=
 TB Tryz.func206 (aH Tryz.f206) hw
def vP:List O:=[mV 7 0,⟨(some 8),none,.nilchk (.t 7)⟩,mG 9 5 8,mF 10 0 3,mL 11 1 10,mC 12 Fn.Ts [.t 11],mC 13 Fn.El [.t 9,.t 12],⟨(some 4),none,.alloc [.int .i64 0,.int .i64 0]⟩,mS 2 4 13]
def vY:List (List Nat):=[[],[0],[1],[],[3],[4],[2,5,5],[],[7,6,6,0,1,2,3,4,5,6,7]]
theorem du(gl:Gl)(Q:AE→St→Prop)(s:St):aw pQ Θ Γ gl (.regD vP vY) Q s=fy pQ Γ gl [mV 7 0,⟨(some 8),none,.nilchk (.t 7)⟩,mG 9 5 8,mF 10 0 3,mL 11 1 10,mC 12 Fn.Ts [.t 11],mC 13 Fn.El [.t 9,.t 12],⟨(some 4),none,.alloc [.int .i64 0,.int .i64 0]⟩,mS 2 4 13] (Q .normal) 9 (.q 0 (.q 1 (.q 2 (.q 3 (.q 4 (.all [(5,.all [(6,.all [(7,.q 8 (.done))]),(7,.all [(6,.q 8 (.done))])]),(7,.all [(5,.all [(6,.q 8 (.done))])])])))))) s:=qL rfl (by kernel_rfl) gl Q s
def vZ:List O:=[mF 14 0 4,mL 15 1 14,mI 16 .eql 15 1,mV 17 16,⟨(some 18),(some (3,true)),.fld 1 (.t 4)⟩,⟨(some 19),(some (3,true)),.load 1 false (.t 18)⟩,⟨(some 20),(some (3,true)),.mov (.t 0)⟩,⟨(some 21),(some (3,true)),.nilchk (.t 20)⟩,⟨(some 22),(some (3,true)),.fld 1 (.t 21)⟩,⟨(some 23),(some (3,true)),.load 1 false (.t 22)⟩,⟨(some 24),(some (3,true)),.len false (.t 23)⟩,⟨(some 25),(some (3,true)),.bin .sub (.num) (.t 24) (.c (.int .i64 1))⟩,⟨(some 26),(some (3,true)),.call (.c (.fn Fn.xG [] [])) [.t 19,.c (.int .i64 0),.t 25]⟩,⟨(some 27),none,.pick (.t 17) (.t 26) (.c (.bool false))⟩]
def wg:List (List Nat):=[[],[0],[1],[2],[3],[4,3],[3],[6,3],[7,3],[8,3],[9,3],[10,3],[5,11,3,3],[3,12]]
theorem dF(gl:Gl)(Q:AE→St→Prop)(s:St):aw pQ Θ Γ gl (.regD vZ wg) Q s=fy pQ Γ gl [mF 14 0 4,mL 15 1 14,mI 16 .eql 15 1,mV 17 16,⟨(some 18),(some (3,true)),.fld 1 (.t 4)⟩,⟨(some 19),(some (3,true)),.load 1 false (.t 18)⟩,⟨(some 20),(some (3,true)),.mov (.t 0)⟩,⟨(some 21),(some (3,true)),.nilchk (.t 20)⟩,⟨(some 22),(some (3,true)),.fld 1 (.t 21)⟩,⟨(some 23),(some (3,true)),.load 1 false (.t 22)⟩,⟨(some 24),(some (3,true)),.len false (.t 23)⟩,⟨(some 25),(some (3,true)),.bin .sub (.num) (.t 24) (.c (.int .i64 1))⟩,⟨(some 26),(some (3,true)),.call (.c (.fn Fn.xG [] [])) [.t 19,.c (.int .i64 0),.t 25]⟩,⟨(some 27),none,.pick (.t 17) (.t 26) (.c (.bool false))⟩] (Q .normal) 14 (.q 0 (.q 1 (.q 2 (.q 3 (.q 4 (.q 5 (.q 6 (.q 7 (.q 8 (.q 9 (.q 10 (.q 11 (.q 12 (.q 13 (.done))))))))))))))) s:=qL rfl (by kernel_rfl) gl Q s
def vT:List O:=[mV 28 0,⟨(some 29),none,.nilchk (.t 28)⟩,mF 30 1 29,mL 31 1 30,mF 32 1 4,mL 33 1 32,mX 34 12 31 33,mG 35 12 34,⟨(some 6),none,.alloc [.int .i64 0,.int .i64 0,.nils,.int .i64 0,.int .i64 0,.int .i64 0,.nils,.nils,.int .i64 0,.int .i64 0,.int .i64 0,.int .i64 0]⟩,mS 12 6 35]
def vS:List (List Nat):=[[],[0],[1],[2],[],[4],[3,5],[6],[],[8,7,0,1,2,3,4,5,6,7,8]]
theorem dz(gl:Gl)(Q:AE→St→Prop)(s:St):aw pQ Θ Γ gl (.regD vT vS) Q s=fy pQ Γ gl [mV 28 0,⟨(some 29),none,.nilchk (.t 28)⟩,mF 30 1 29,mL 31 1 30,mF 32 1 4,mL 33 1 32,mX 34 12 31 33,mG 35 12 34,⟨(some 6),none,.alloc [.int .i64 0,.int .i64 0,.nils,.int .i64 0,.int .i64 0,.int .i64 0,.nils,.nils,.int .i64 0,.int .i64 0,.int .i64 0,.int .i64 0]⟩,mS 12 6 35] (Q .normal) 10 (.q 0 (.q 1 (.q 2 (.q 3 (.q 4 (.q 5 (.q 6 (.q 7 (.all [(8,.q 9 (.done))]))))))))) s:=qL rfl (by kernel_rfl) gl Q s
def vW:List O:=[mV 49 0,mV 50 0,⟨(some 51),none,.nilchk (.t 50)⟩,mF 52 2 51,mL 53 1 52,mG 54 7 3,⟨(some 55),none,.bsl 7 1 [.int .i64 0,.str ⟨#[]⟩,.nils,.int .i64 0,.int .i64 0,.int .i64 0,.int .i64 0] [(0,.t 54)]⟩,⟨(some 56),none,.app 7 80 [.int .i64 0,.str ⟨#[]⟩,.nils,.int .i64 0,.int .i64 0,.int .i64 0,.int .i64 0] false (.t 53) (.t 55)⟩,⟨(some 57),none,.nilchk (.t 49)⟩,mF 58 2 57,mS 1 58 56]
def wb:List (List Nat):=[[],[],[1],[2],[3],[],[5],[4,6],[0,0,1,2,3,4,5,6,7],[8,0,1,2,3,4,5,6,7],[9,7,7,0,1,2,3,4,5,6,7]]
theorem dK(gl:Gl)(Q:AE→St→Prop)(s:St):aw pQ Θ Γ gl (.regD vW wb) Q s=fy pQ Γ gl [mV 49 0,mV 50 0,⟨(some 51),none,.nilchk (.t 50)⟩,mF 52 2 51,mL 53 1 52,mG 54 7 3,⟨(some 55),none,.bsl 7 1 [.int .i64 0,.str ⟨#[]⟩,.nils,.int .i64 0,.int .i64 0,.int .i64 0,.int .i64 0] [(0,.t 54)]⟩,⟨(some 56),none,.app 7 80 [.int .i64 0,.str ⟨#[]⟩,.nils,.int .i64 0,.int .i64 0,.int .i64 0,.int .i64 0] false (.t 53) (.t 55)⟩,⟨(some 57),none,.nilchk (.t 49)⟩,mF 58 2 57,mS 1 58 56] (Q .normal) 11 (.q 0 (.q 1 (.q 2 (.q 3 (.q 4 (.q 5 (.all [(6,.q 7 (.q 8 (.q 9 (.q 10 (.done)))))]))))))) s:=qL rfl (by kernel_rfl) gl Q s
def wH:List O:=[mV 87 0,⟨(some 88),none,.nilchk (.t 87)⟩,mF 89 1 88,mL 90 1 89,mF 91 1 4,mL 92 1 91,mV 93 0,⟨(some 94),none,.nilchk (.t 93)⟩,mF 95 1 94,mL 96 1 95,mF 97 1 4,mL 98 1 97,mX 99 12 96 98,mF 100 10 99,mL 101 1 100,mI 102 .add 101 1,mX 103 12 90 92,mF 104 10 103,mS 1 104 102]
def wi:List (List Nat):=[[],[0],[1],[2],[],[4],[],[6],[7],[8],[],[10],[9,11],[12],[13],[14],[3,5,0,1,2,3,4,5,6,7,8,9,10,11,12,13,14,15],[16,0,1,2,3,4,5,6,7,8,9,10,11,12,13,14,15],[17,15,0,1,2,3,4,5,6,7,8,9,10,11,12,13,14,15]]
theorem dE(gl:Gl)(Q:AE→St→Prop)(s:St):aw pQ Θ Γ gl (.regD wH wi) Q s=fy pQ Γ gl [mV 87 0,⟨(some 88),none,.nilchk (.t 87)⟩,mF 89 1 88,mL 90 1 89,mF 91 1 4,mL 92 1 91,mV 93 0,⟨(some 94),none,.nilchk (.t 93)⟩,mF 95 1 94,mL 96 1 95,mF 97 1 4,mL 98 1 97,mX 99 12 96 98,mF 100 10 99,mL 101 1 100,mI 102 .add 101 1,mX 103 12 90 92,mF 104 10 103,mS 1 104 102] (Q .normal) 19 (.q 0 (.q 1 (.q 2 (.q 3 (.q 4 (.q 5 (.q 6 (.q 7 (.q 8 (.q 9 (.q 10 (.q 11 (.q 12 (.q 13 (.q 14 (.q 15 (.q 16 (.q 17 (.q 18 (.done)))))))))))))))))))) s:=qL rfl (by kernel_rfl) gl Q s
def wz:List O:=[mV 118 0,⟨(some 119),none,.nilchk (.t 118)⟩,mF 120 1 119,mL 121 1 120,mF 122 1 4,mL 123 1 122,mF 124 6 6,mL 125 1 124,mG 126 7 3,⟨(some 127),none,.bsl 7 1 [.int .i64 0,.str ⟨#[]⟩,.nils,.int .i64 0,.int .i64 0,.int .i64 0,.int .i64 0] [(0,.t 126)]⟩,⟨(some 128),none,.app 7 80 [.int .i64 0,.str ⟨#[]⟩,.nils,.int .i64 0,.int .i64 0,.int .i64 0,.int .i64 0] false (.t 125) (.t 127)⟩,mX 129 12 121 123,mF 130 6 129,mS 1 130 128]
def wc:List (List Nat):=[[],[0],[1],[2],[],[4],[],[6],[],[8],[7,9],[3,5,0,1,2,3,4,5,6,7,8,9,10],[11,0,1,2,3,4,5,6,7,8,9,10],[12,10,10,0,1,2,3,4,5,6,7,8,9,10]]
theorem dy(gl:Gl)(Q:AE→St→Prop)(s:St):aw pQ Θ Γ gl (.regD wz wc) Q s=fy pQ Γ gl [mV 118 0,⟨(some 119),none,.nilchk (.t 118)⟩,mF 120 1 119,mL 121 1 120,mF 122 1 4,mL 123 1 122,mF 124 6 6,mL 125 1 124,mG 126 7 3,⟨(some 127),none,.bsl 7 1 [.int .i64 0,.str ⟨#[]⟩,.nils,.int .i64 0,.int .i64 0,.int .i64 0,.int .i64 0] [(0,.t 126)]⟩,⟨(some 128),none,.app 7 80 [.int .i64 0,.str ⟨#[]⟩,.nils,.int .i64 0,.int .i64 0,.int .i64 0,.int .i64 0] false (.t 125) (.t 127)⟩,mX 129 12 121 123,mF 130 6 129,mS 1 130 128] (Q .normal) 14 (.q 0 (.q 1 (.q 2 (.q 3 (.q 4 (.q 5 (.q 6 (.q 7 (.q 8 (.all [(9,.st 10 [120,122] (.q 11 (.q 12 (.q 13 (.done)))))])))))))))) s:=qL rfl (by kernel_rfl) gl Q s
def vO:List O:=[mV 133 0,mF 134 3 3,mL 135 1 134,mC 136 Fn.Uk [],mC 137 Fn.kcJ [.t 133,.t 135,.t 136]]
def wI:List (List Nat):=[[],[],[1],[],[0,2,3,3]]
theorem dR(gl:Gl)(Q:AE→St→Prop)(s:St):aw pQ Θ Γ gl (.regD vO wI) Q s=fy pQ Γ gl [mV 133 0,mF 134 3 3,mL 135 1 134,mC 136 Fn.Uk [],mC 137 Fn.kcJ [.t 133,.t 135,.t 136]] (Q .normal) 5 (.q 0 (.q 1 (.q 2 (.st 3 [134] (.q 4 (.done)))))) s:=qL rfl (by kernel_rfl) gl Q s
def Ru:C:=.seq (.reg [mA 3 1]) (.seq (.regD vP vY) (.seq (.reg [mT 5 false]) (.seq (.seq (.regD vZ wg) (.cond (.t 27) (.seq (.regD vT vS) (.seq (.reg [mF 36 1 4,mL 37 1 36,mF 38 0 3,mS 1 38 37]) (.block 0 (.seq (.reg [mF 40 0 6,mL 41 1 40,mI 42 .eql 41 1,mV 39 42]) (.cond (.t 39) (.seq (.reg [mV 43 0,⟨(some 44),none,.nilchk (.t 43)⟩,mF 45 2 44,mL 46 1 45,mN 47 46,mI 48 .lss 47 60]) (.cond (.t 48) (.seq (.regD vW wb) (.reg [mT 5 true])) .skip)) (.seq (.reg [mF 60 0 6,mL 61 1 60,mI 62 .eql 61 3,mV 59 62]) (.cond (.t 59) (.reg [mV 63 0,mG 64 7 3,mF 65 8 6,mL 66 1 65,mF 67 9 6,mL 68 1 67,mC 69 Fn.Pp [.t 63,.t 64,.t 66,.t 68,.c (.int .i64 0)],mV 5 69]) (.seq (.reg [mF 71 0 6,mL 72 1 71,mI 73 .eql 72 2,mV 74 73,⟨(some 75),(some (3,true)),.fld 3 (.t 6)⟩,⟨(some 76),(some (3,true)),.load 1 false (.t 75)⟩,⟨(some 77),(some (3,true)),.bin .eql (.num) (.t 76) (.c (.int .i64 3))⟩,⟨(some 78),none,.pick (.t 74) (.t 77) (.c (.bool false))⟩,mV 70 78]) (.cond (.t 70) (.seq (.reg [mV 79 0,mG 80 7 3,mF 81 8 6,mL 82 1 81,mF 83 9 6,mL 84 1 83,mC 85 Fn.Pp [.t 79,.t 80,.t 82,.c (.int .i64 0),.t 84],mV 5 85]) (.seq (.reg [mV 86 5]) (.cond (.t 86) (.regD wH wi) .skip))) (.seq (.reg [mF 106 0 6,mL 107 1 106,mI 108 .eql 107 2,mV 109 108,⟨(some 110),(some (3,true)),.fld 3 (.t 6)⟩,⟨(some 111),(some (3,true)),.load 1 false (.t 110)⟩,⟨(some 112),(some (3,true)),.bin .neq (.num) (.t 111) (.c (.int .i64 2))⟩,⟨(some 113),none,.pick (.t 109) (.t 112) (.c (.bool false))⟩,mV 105 113]) (.cond (.t 105) (.seq (.reg [mF 114 6 6,mL 115 1 114,mN 116 115,mI 117 .lss 116 40]) (.cond (.t 117) (.seq (.regD wz wc) (.reg [mT 5 true])) .skip)) .skip))))))))))) .skip)) (.seq (.reg [mV 131 5,mU 132 131]) (.cond (.t 132) (.regD vO wI) .skip)))))
def kf:List RS:=[]
theorem kcG_e(hw:TC pQ Θ Γ Ru (aV kf K) ⟨a0::a1::u8 (u8 (u8 (u8 (u8 (u8 (u8 (u8 (u8 (u8 (u8 (u8 (u8 (u8 (u8 (u8 (u8 [])))))))))))))))),[],h⟩):T pQ Γ Fn.Tv [a0,a1] h K:=
 TB Tryz.func207 (aH Tryz.f207) hw
noncomputable def O2:=CF Tryz.f208 R0
def L4:List RS:=[.t 4]
theorem VR(hw:TC pQ Θ Γ O2.1 (aV L4 K) ⟨[a0,a1,u,u,u,u,u,u,u],[],h⟩):T pQ Γ Fn.kbu [a0,a1] h K:=
 TB Tryz.func208 (aH Tryz.f208) hw
noncomputable def QW:=CF Tryz.f209 R0
def Lo:List RS:=[.t 3]
theorem Wg(hw:TC pQ Θ Γ QW.1 (aV Lo K) ⟨a0::a1::u8 [u,u],[],h⟩):T pQ Γ Fn.kaU [a0,a1] h K:=
 TB Tryz.func209 (aH Tryz.f209) hw
noncomputable def Pd:=CF Tryz.f210 R0
def KQ:List RS:=[.t 4]
theorem kap_e(hw:TC pQ Θ Γ Pd.1 (aV KQ K) ⟨[a0,a1,u,u,u,u,u,u,u],[],h⟩):T pQ Γ Fn.kap [a0,a1] h K:=
 TB Tryz.func210 (aH Tryz.f210) hw
noncomputable def Pz:=CF Tryz.f211 R0
def Kj:List RS:=[.t 4]
theorem ZP(hw:TC pQ Θ Γ Pz.1 (aV Kj K) ⟨[a0,a1,u,u,u,u,u,u,u],[],h⟩):T pQ Γ Fn.kbv [a0,a1] h K:=
 TB Tryz.func211 (aH Tryz.f211) hw
noncomputable def RU:=CF Tryz.f212 R0
def Sd:List RS:=[.t 3]
theorem VE(hw:TC pQ Θ Γ RU.1 (aV Sd K) ⟨[a0,a1,u,u,u,u,u,u],[],h⟩):T pQ Γ Fn.kbb [a0,a1] h K:=
 TB Tryz.func212 (aH Tryz.f212) hw
noncomputable def Ph:=CF Tryz.f213 R0
def yK:List RS:=[.t 4]
def Bg(t0 t1 t5 t6:AV)(loc:List (List AV))(h:AH):St:=⟨[t0,t1,zz,zz,zz,t5,t6,zz,zz,zz,zz,zz,zz,zz,zz,zz,zz,zz,zz,zz,zz,zz,zz,zz,zz,zz,zz,zz,zz,zz,zz,zz,zz,zz,zz,zz,zz,zz,zz,zz,zz,zz],loc,h⟩
theorem YW(hw:TC pQ Θ Γ Ph.1 (aV yK K) ⟨a0::a1::u8 (u8 (u8 (u8 (u8 [])))),[],h⟩):T pQ Γ Fn.kbx [a0,a1] h K:=
 TB Tryz.func213 (aH Tryz.f213) hw
noncomputable def P2:=CF Tryz.f214 R0
def NF:List RS:=[.t 3]
theorem W5(hw:TC pQ Θ Γ P2.1 (aV NF K) ⟨[a0,a1,u,u,u,u,u,u],[],h⟩):T pQ Γ Fn.Uj [a0,a1] h K:=
 TB Tryz.func214 (aH Tryz.f214) hw
noncomputable def Qm:=CF Tryz.f215 R0
def K0:List RS:=[.t 4]
theorem YI(hw:TC pQ Θ Γ Qm.1 (aV K0 K) ⟨a0::a1::u8 [u],[],h⟩):T pQ Γ Fn.kas [a0,a1] h K:=
 TB Tryz.func215 (aH Tryz.f215) hw
noncomputable def zP:=CR Tryz.f216 0
theorem Ky:QT Γ Tryz.f216 0 zP.1 8 (qs [0,1,2,3,4,5,6,7] .done):=qt zP.2
noncomputable def Rc:=CF Tryz.f216 (RG Tryz.f216)
def NH:List RS:=[.t 6]
theorem Wf(hw:TC pQ Θ Γ Rc.1 (aV NH K) ⟨a0::a1::a2::u8 (u8 (u8 [u,u,u,u,u,u])),[],h⟩):T pQ Γ Fn.kby [a0,a1,a2] h K:=
 TB Tryz.func216 (aH Tryz.f216) hw
noncomputable def Tg:=CF Tryz.f223 R0
def KT:List RS:=[.t 4]
theorem Xd(hw:TC pQ Θ Γ Tg.1 (aV KT K) ⟨a0::a1::u8 [u],[],h⟩):T pQ Γ Fn.kav [a0,a1] h K:=
 TB Tryz.func223 (aH Tryz.f223) hw
noncomputable def QX:=CF Tryz.f235 R0
def Bz:List RS:=[.t 4]
def EM(t0 t1 t5:AV)(loc:List (List AV))(h:AH):St:=⟨[t0,t1,zz,zz,zz,t5,zz,zz,zz,zz,zz,zz,zz,zz,zz,zz,zz,zz,zz],loc,h⟩
theorem Xa(hw:TC pQ Θ Γ QX.1 (aV Bz K) ⟨a0::a1::u8 (u8 [u]),[],h⟩):T pQ Γ Fn.kbN [a0,a1] h K:=
 TB Tryz.func235 (aH Tryz.f235) hw
noncomputable def qN:=CR Tryz.f236 0
theorem yI:QT Γ Tryz.f236 0 qN.1 8 (qs [0,1,2] (.st 3 [14] (.all [(4,qs [5,6,7] .done)]))):=qt qN.2
noncomputable def qP:=CR Tryz.f236 1
theorem yd:QT Γ Tryz.f236 1 qP.1 6 (qs [0,1,2,3] (.st 4 [22] (qs [5] .done))):=qt qP.2
noncomputable def OX:=CF Tryz.f236 (RG Tryz.f236)
def F6:List RS:=[.cell 4 5 true,.t 5]
theorem Xv(hw:TC pQ Θ Γ OX.1 (aV F6 K) ⟨a0::a1::u8 (u8 [u,u,u,u,u,u,u]),[],h⟩):T pQ Γ Fn.kbM [a0,a1] h K:=
 TB Tryz.func236 (aH Tryz.f236) hw
noncomputable def Qz:=CF Tryz.f237 R0
def Qp:List RS:=[.cell 0 12 true]
theorem VU(hw:TC pQ Θ Γ Qz.1 (aV Qp K) ⟨[u,u],[],h⟩):T pQ Γ Fn.kb9 [] h K:=
 TB Tryz.func237 (aH Tryz.f237) hw
noncomputable def LS:=CF Tryz.f238 R0
def FN:List RS:=[.t 4]
theorem Sy(hw:TC pQ Θ Γ LS.1 (aV FN K) ⟨a0::a1::u8 [u,u,u,u,u],[],h⟩):T pQ Γ Fn.kb6 [a0,a1] h K:=
 TB Tryz.func238 (aH Tryz.f238) hw
noncomputable def bH:=CR Tryz.f242 0
theorem cJ:QT Γ Tryz.f242 0 bH.1 13 (qs [0,1,3] (.st 2 [3] (.st 4 [3] (.st 5 [3] (.all [(6,.st 7 [3] (qs [8,9,10,11,12] .done))]))))):=qt bH.2
noncomputable def bJ:=CR Tryz.f242 1
theorem cH:QT Γ Tryz.f242 1 bJ.1 7 (qs [0] (.st 1 [3] (qs [2,3,4,5,6] .done))):=qt bJ.2
noncomputable def bI:=CR Tryz.f242 2
theorem cI:QT Γ Tryz.f242 2 bI.1 13 (qs [0,1,4] (.st 2 [3] (qs [3] (.st 5 [3] (qs [6] (.st 7 [3] (qs [8,9,10,11,12] .done))))))):=qt bI.2
noncomputable def Pm:=CF Tryz.f242 (RG Tryz.f242)
def iy:List RS:=[.cell 2 5 true]
def Gw(t0 t2 t3 t4:AV)(loc:List (List AV))(h:AH):St:=⟨[t0,zz,t2,t3,t4,zz,zz,zz,zz,zz,zz,zz,zz,zz,zz,zz,zz,zz,zz,zz,zz,zz,zz,zz,zz,zz,zz,zz,zz,zz,zz,zz,zz,zz,zz,zz,zz,zz,zz,zz,zz,zz,zz,zz,zz,zz,zz,zz,zz,zz,zz,zz,zz,zz,zz,zz,zz,zz,zz,zz,zz,zz,zz,zz,zz,zz,zz,zz,zz,zz,zz,zz,zz,zz,zz,zz,zz,zz,zz,zz,zz,zz,zz,zz,zz,zz,zz,zz,zz,zz,zz,zz,zz,zz,zz,zz,zz,zz,zz,zz,zz,zz,zz,zz,zz,zz,zz,zz,zz,zz,zz,zz,zz,zz,zz,zz,zz,zz,zz,zz,zz,zz],loc,h⟩
theorem Xw(hw:TC pQ Θ Γ Pm.1 (aV iy K) ⟨a0::u8 (u8 (u8 (u8 (u8 (u8 (u8 (u8 (u8 (u8 (u8 (u8 (u8 (u8 (u8 [u])))))))))))))),[],h⟩):T pQ Γ Fn.kcy [a0] h K:=
 TB Tryz.func242 (aH Tryz.f242) hw
noncomputable def Sx:=CF Tryz.f243 R0
def Iw:List RS:=[.cell 6 5 true]
theorem X0(hw:TC pQ Θ Γ Sx.1 (aV Iw K) ⟨a0::a1::a2::u8 [u,u,u],[],h⟩):T pQ Γ Fn.kcm [a0,a1,a2] h K:=
 TB Tryz.func243 (aH Tryz.f243) hw
noncomputable def kbL_c:=CF Tryz.f244 R0
def UA:List RS:=[.t 4]
def kbL_s0(t0 t1 t7 t8:AV)(loc:List (List AV))(h:AH):St:=⟨[t0,t1,zz,zz,zz,zz,zz,t7,t8,zz,zz,zz,zz,zz,zz,zz,zz,zz,zz],loc,h⟩
theorem X2(hw:TC pQ Θ Γ kbL_c.1 (aV UA K) ⟨a0::a1::u8 (u8 [u]),[],h⟩):T pQ Γ Fn.kbL [a0,a1] h K:=
 TB Tryz.func244 (aH Tryz.f244) hw
noncomputable def Rf:=CF Tryz.f245 R0
def Lv:List RS:=[.t 4]
theorem Zg(hw:TC pQ Θ Γ Rf.1 (aV Lv K) ⟨a0::a1::u8 [u,u,u,u,u],[],h⟩):T pQ Γ Fn.kaA [a0,a1] h K:=
 TB Tryz.func245 (aH Tryz.f245) hw
noncomputable def Pf:=CF Tryz.f246 R0
def CX:List RS:=[.t 4]
theorem Vi(hw:TC pQ Θ Γ Pf.1 (aV CX K) ⟨a0::a1::u8 (u8 []),[],h⟩):T pQ Γ Fn.Ue [a0,a1] h K:=
 TB Tryz.func246 (aH Tryz.f246) hw
noncomputable def OC:=CF Tryz.f247 R0
def Di:List RS:=[.t 4]
theorem XZ(hw:TC pQ Θ Γ OC.1 (aV Di K) ⟨a0::a1::u8 (u8 [u,u,u,u,u,u]),[],h⟩):T pQ Γ Fn.kao [a0,a1] h K:=
 TB Tryz.func247 (aH Tryz.f247) hw
noncomputable def Oj:=CF Tryz.f248 R0
def rZ:List RS:=[.cell 6 2 true]
theorem Y1(hw:TC pQ Θ Γ Oj.1 (aV rZ K) ⟨a0::a1::a2::u8 (u8 (u8 (u8 (u8 (u8 (u8 [u,u])))))),[],h⟩):T pQ Γ Fn.ka5 [a0,a1,a2] h K:=
 TB Tryz.func248 (aH Tryz.f248) hw
noncomputable def Ta:=CF Tryz.f249 R0
def CO:List RS:=[.t 2]
theorem XJ(hw:TC pQ Θ Γ Ta.1 (aV CO K) ⟨a0::u8 [u,u,u,u,u,u,u],[],h⟩):T pQ Γ Fn.kb0 [a0] h K:=
 TB Tryz.func249 (aH Tryz.f249) hw
noncomputable def SP:=CF Tryz.f250 R0
def CC:List RS:=[.t 4]
theorem Yx(hw:TC pQ Θ Γ SP.1 (aV CC K) ⟨a0::a1::u8 (u8 (u8 [u,u,u,u,u])),[],h⟩):T pQ Γ Fn.kb2 [a0,a1] h K:=
 TB Tryz.func250 (aH Tryz.f250) hw
noncomputable def oD:=CR Tryz.f251 0
theorem tU:QT Γ Tryz.f251 0 oD.1 26 (qs [0,1,2,3,4,5,6,7,8,9,10,11,12,13,14,15,16,17,18,19,20,21,22,23,24,25] .done):=qt oD.2
noncomputable def QG:=CF Tryz.f251 (RG Tryz.f251)
def BO:List RS:=[.t 4]
theorem Xe(hw:TC pQ Θ Γ QG.1 (aV BO K) ⟨a0::a1::u8 (u8 (u8 [u,u,u,u])),[],h⟩):T pQ Γ Fn.U7 [a0,a1] h K:=
 TB Tryz.func251 (aH Tryz.f251) hw
noncomputable def bj:=CR Tryz.f252 0
theorem bU:QT Γ Tryz.f252 0 bj.1 7 (qs [0,1,2,3] (.all [(4,.all [(5,qs [6] .done)]),(5,.all [(4,qs [6] .done)])])):=qt bj.2
noncomputable def bo:=CR Tryz.f252 1
theorem bY:QT Γ Tryz.f252 1 bo.1 23 (qs [0,1,2,3,4,5,6,7,8,9,10,11,12,13,14,15,16,17,18,19,20,21,22] .done):=qt bo.2
noncomputable def bh:=CR Tryz.f252 2
theorem bQ:QT Γ Tryz.f252 2 bh.1 10 (qs [0,1,2,3,4,5,6,7] (.all [(8,qs [9] .done)])):=qt bh.2
noncomputable def bk:=CR Tryz.f252 3
theorem bW:QT Γ Tryz.f252 3 bk.1 16 (qs [0,1,2,3,4,5,6,7,8] (.all [(9,qs [10,11,12] (.all [(13,qs [14,15] .done)])),(13,.all [(9,qs [10,11,12,14,15] .done)])])):=qt bk.2
noncomputable def bp:=CR Tryz.f252 4
theorem bZ:QT Γ Tryz.f252 4 bp.1 8 (qs [0,1,2,3,4,5,6,7] .done):=qt bp.2
noncomputable def Oh:=CF Tryz.f252 (RG Tryz.f252)
def gu:List RS:=[.cell 6 2 true]
theorem WZ(hw:TC pQ Θ Γ Oh.1 (aV gu K) ⟨a0::a1::a2::u8 (u8 (u8 (u8 (u8 (u8 (u8 (u8 (u8 (u8 (u8 (u8 []))))))))))),[],h⟩):T pQ Γ Fn.Xm [a0,a1,a2] h K:=
 TB Tryz.func252 (aH Tryz.f252) hw
noncomputable def Ro:=CF Tryz.f253 R0
def Fo:List RS:=[.t 4]
theorem Uu(hw:TC pQ Θ Γ Ro.1 (aV Fo K) ⟨a0::a1::u8 [u,u],[],h⟩):T pQ Γ Fn.ka3 [a0,a1] h K:=
 TB Tryz.func253 (aH Tryz.f253) hw
noncomputable def tP:=CR Tryz.f254 0
theorem A7:QT Γ Tryz.f254 0 tP.1 5 (qs [0,1,2] (.st 3 [5] (qs [4] .done))):=qt tP.2
noncomputable def QU:=CF Tryz.f254 (RG Tryz.f254)
def HD:List RS:=[]
theorem Xs(hw:TC pQ Θ Γ QU.1 (aV HD K) ⟨[a0,a1,u,u,u,u,u,u,u],[],h⟩):T pQ Γ Fn.kaP [a0,a1] h K:=
 TB Tryz.func254 (aH Tryz.f254) hw
noncomputable def db:=CR Tryz.f255 0
theorem eM:QT Γ Tryz.f255 0 db.1 9 (qs [0,1,3,4,5] (.st 2 [22] (qs [6,7,8] .done))):=qt db.2
noncomputable def OA:=CF Tryz.f255 (RG Tryz.f255)
def kL:List RS:=[]
def uV(t0 t104 t105 t106:AV)(loc:List (List AV))(h:AH):St:=⟨[t0,zz,zz,zz,zz,zz,zz,zz,zz,zz,zz,zz,zz,zz,zz,zz,zz,zz,zz,zz,zz,zz,zz,zz,zz,zz,zz,zz,zz,zz,zz,zz,zz,zz,zz,zz,zz,zz,zz,zz,zz,zz,zz,zz,zz,zz,zz,zz,zz,zz,zz,zz,zz,zz,zz,zz,zz,zz,zz,zz,zz,zz,zz,zz,zz,zz,zz,zz,zz,zz,zz,zz,zz,zz,zz,zz,zz,zz,zz,zz,zz,zz,zz,zz,zz,zz,zz,zz,zz,zz,zz,zz,zz,zz,zz,zz,zz,zz,zz,zz,zz,zz,zz,zz,t104,t105,t106,zz,zz,zz,zz,zz,zz,zz],loc,h⟩
theorem Y3(hw:TC pQ Θ Γ OA.1 (aV kL K) ⟨a0::a1::a2::a3::a4::u8 (u8 (u8 (u8 (u8 (u8 (u8 (u8 (u8 (u8 (u8 (u8 (u8 [u,u,u,u,u])))))))))))),[],h⟩):T pQ Γ Fn.kaL [a0,a1,a2,a3,a4] h K:=
 TB Tryz.func255 (aH Tryz.f255) hw
def Aa:List O:=[mV 18 0,⟨(some 19),none,.nilchk (.t 18)⟩,mG 20 5 19,mV 21 2,mC 22 Fn.JD [.t 20,.t 21],mU 23 22,mV 24 23,⟨(some 25),(some (6,false)),.fld 3 (.t 6)⟩,⟨(some 26),(some (6,false)),.load 1 false (.t 25)⟩,⟨(some 27),(some (6,false)),.mov (.t 0)⟩,⟨(some 28),(some (6,false)),.nilchk (.t 27)⟩,⟨(some 29),(some (6,false)),.fld 1 (.t 28)⟩,⟨(some 30),(some (6,false)),.load 1 false (.t 29)⟩,⟨(some 31),(some (6,false)),.len false (.t 30)⟩,⟨(some 32),(some (6,false)),.bin .sub (.num) (.t 31) (.c (.int .i64 1))⟩,⟨(some 33),(some (6,false)),.call (.c (.fn Fn.xG [] [])) [.t 26,.c (.int .i64 0),.t 32]⟩,⟨(some 34),(some (6,false)),.un .not (.t 33)⟩,⟨(some 35),none,.pick (.t 24) (.c (.bool true)) (.t 34)⟩]
def zZ:List (List Nat):=[[],[0],[1],[],[2,3],[4],[5,4],[6],[7,6],[6],[9,6],[10,6],[11,6],[12,6],[13,6],[8,14,6,6],[15,6],[6,16]]
theorem dP(gl:Gl)(Q:AE→St→Prop)(s:St):aw pQ Θ Γ gl (.regD Aa zZ) Q s=fy pQ Γ gl [mV 18 0,⟨(some 19),none,.nilchk (.t 18)⟩,mG 20 5 19,mV 21 2,mC 22 Fn.JD [.t 20,.t 21],mU 23 22,mV 24 23,⟨(some 25),(some (6,false)),.fld 3 (.t 6)⟩,⟨(some 26),(some (6,false)),.load 1 false (.t 25)⟩,⟨(some 27),(some (6,false)),.mov (.t 0)⟩,⟨(some 28),(some (6,false)),.nilchk (.t 27)⟩,⟨(some 29),(some (6,false)),.fld 1 (.t 28)⟩,⟨(some 30),(some (6,false)),.load 1 false (.t 29)⟩,⟨(some 31),(some (6,false)),.len false (.t 30)⟩,⟨(some 32),(some (6,false)),.bin .sub (.num) (.t 31) (.c (.int .i64 1))⟩,⟨(some 33),(some (6,false)),.call (.c (.fn Fn.xG [] [])) [.t 26,.c (.int .i64 0),.t 32]⟩,⟨(some 34),(some (6,false)),.un .not (.t 33)⟩,⟨(some 35),none,.pick (.t 24) (.c (.bool true)) (.t 34)⟩] (Q .normal) 18 (.q 0 (.q 1 (.q 2 (.q 3 (.q 4 (.q 5 (.q 6 (.q 7 (.q 8 (.q 9 (.q 10 (.q 11 (.q 12 (.q 13 (.q 14 (.q 15 (.q 16 (.q 17 (.done))))))))))))))))))) s:=qL rfl (by kernel_rfl) gl Q s
def zf:List O:=[mV 36 0,⟨(some 37),none,.nilchk (.t 36)⟩,mF 38 1 37,mL 39 1 38,mF 40 3 6,mL 41 1 40,mX 42 12 39 41,mG 43 12 42,⟨(some 11),none,.alloc [.int .i64 0,.int .i64 0,.nils,.int .i64 0,.int .i64 0,.int .i64 0,.nils,.nils,.int .i64 0,.int .i64 0,.int .i64 0,.int .i64 0]⟩,mS 12 11 43]
def zt:List (List Nat):=[[],[0],[1],[2],[],[4],[3,5],[6],[],[8,7,0,1,2,3,4,5,6,7,8]]
theorem dM(gl:Gl)(Q:AE→St→Prop)(s:St):aw pQ Θ Γ gl (.regD zf zt) Q s=fy pQ Γ gl [mV 36 0,⟨(some 37),none,.nilchk (.t 36)⟩,mF 38 1 37,mL 39 1 38,mF 40 3 6,mL 41 1 40,mX 42 12 39 41,mG 43 12 42,⟨(some 11),none,.alloc [.int .i64 0,.int .i64 0,.nils,.int .i64 0,.int .i64 0,.int .i64 0,.nils,.nils,.int .i64 0,.int .i64 0,.int .i64 0,.int .i64 0]⟩,mS 12 11 43] (Q .normal) 10 (.q 0 (.q 1 (.q 2 (.q 3 (.q 4 (.q 5 (.q 6 (.q 7 (.all [(8,.q 9 (.done))]))))))))) s:=qL rfl (by kernel_rfl) gl Q s
def Ae:List O:=[mV 63 0,⟨(some 64),none,.nilchk (.t 63)⟩,mF 65 3 64,mL 66 1 65,mV 67 13,mX 68 7 66 67,mG 69 7 68,mF 70 3 6,mL 71 1 70,mC 72 Fn.Vp [.t 69,.t 71],mV 62 72,⟨(some 73),none,.extr (.t 62) 0⟩,⟨(some 74),none,.extr (.t 62) 1⟩,⟨(some 14),none,.alloc [.int .i64 0,.bool false,.nils,.int .i64 0,.nils,.int .i64 0,.nils]⟩,mS 7 14 73,mV 15 74]
def zX:List (List Nat):=[[],[0],[1],[2],[],[3,4],[5],[],[7],[6,8],[9],[10],[10],[],[13,11,9,0,1,2,3,4,5,6,7,8,9,10,11,13],[12,14,0,1,2,3,4,5,6,7,8,9,10,11,12,13,14]]
theorem dN(gl:Gl)(Q:AE→St→Prop)(s:St):aw pQ Θ Γ gl (.regD Ae zX) Q s=fy pQ Γ gl [mV 63 0,⟨(some 64),none,.nilchk (.t 63)⟩,mF 65 3 64,mL 66 1 65,mV 67 13,mX 68 7 66 67,mG 69 7 68,mF 70 3 6,mL 71 1 70,mC 72 Fn.Vp [.t 69,.t 71],mV 62 72,⟨(some 73),none,.extr (.t 62) 0⟩,⟨(some 74),none,.extr (.t 62) 1⟩,⟨(some 14),none,.alloc [.int .i64 0,.bool false,.nils,.int .i64 0,.nils,.int .i64 0,.nils]⟩,mS 7 14 73,mV 15 74] (Q .normal) 16 (.q 0 (.q 1 (.q 2 (.q 3 (.q 4 (.q 5 (.q 6 (.q 7 (.q 8 (.all [(9,.q 10 (.q 11 (.q 12 (.all [(13,.q 14 (.q 15 (.done)))])))),(13,.all [(9,.q 10 (.q 11 (.q 12 (.q 14 (.q 15 (.done))))))])])))))))))) s:=qL rfl (by kernel_rfl) gl Q s
def zn:List O:=[mV 75 0,⟨(some 76),none,.nilchk (.t 75)⟩,mF 77 3 76,mL 78 1 77,mV 79 13,mG 80 7 14,mX 81 7 78 79,mS 7 81 80]
def zI:List (List Nat):=[[],[0],[1],[2],[],[],[3,4,0,1,2,3,4,5],[6,5,0,1,2,3,4,5]]
theorem dH(gl:Gl)(Q:AE→St→Prop)(s:St):aw pQ Θ Γ gl (.regD zn zI) Q s=fy pQ Γ gl [mV 75 0,⟨(some 76),none,.nilchk (.t 75)⟩,mF 77 3 76,mL 78 1 77,mV 79 13,mG 80 7 14,mX 81 7 78 79,mS 7 81 80] (Q .normal) 8 (.q 0 (.q 1 (.q 2 (.q 3 (.q 4 (.q 5 (.q 6 (.q 7 (.done))))))))) s:=qL rfl (by kernel_rfl) gl Q s
def zj:List O:=[mV 92 0,⟨(some 93),none,.nilchk (.t 92)⟩,mF 94 1 93,mL 95 1 94,mF 96 3 6,mL 97 1 96,mG 98 12 11,mX 99 12 95 97,mS 12 99 98]
def zp:List (List Nat):=[[],[0],[1],[2],[],[4],[],[3,5,0,1,2,3,4,5,6],[7,6,0,1,2,3,4,5,6]]
theorem dw(gl:Gl)(Q:AE→St→Prop)(s:St):aw pQ Θ Γ gl (.regD zj zp) Q s=fy pQ Γ gl [mV 92 0,⟨(some 93),none,.nilchk (.t 92)⟩,mF 94 1 93,mL 95 1 94,mF 96 3 6,mL 97 1 96,mG 98 12 11,mX 99 12 95 97,mS 12 99 98] (Q .normal) 9 (.q 0 (.q 1 (.q 2 (.q 3 (.q 4 (.q 5 (.q 6 (.q 7 (.q 8 (.done)))))))))) s:=qL rfl (by kernel_rfl) gl Q s
def Oe:C:=.seq (.reg [mA 6 1,mT 10 false]) (.seq (.seq (.regD Aa zZ) (.cond (.t 35) (.seq (.reg [mT 10 false]) .ret) .skip)) (.seq (.regD zf zt) (.seq (.seq (.reg [mF 44 0 11,mL 45 1 44,mI 46 .neq 45 2,mV 47 46,⟨(some 48),(some (3,false)),.fld 3 (.t 11)⟩,⟨(some 49),(some (3,false)),.load 1 false (.t 48)⟩,⟨(some 50),(some (3,false)),.bin .neq (.num) (.t 49) (.c (.int .i64 1))⟩,⟨(some 51),none,.pick (.t 47) (.c (.bool true)) (.t 50)⟩]) (.cond (.t 51) (.seq (.reg [mT 10 false]) .ret) .skip)) (.seq (.reg [mV 52 0,mV 53 2,mF 54 2 6,mL 55 1 54,mC 56 Fn.kcE [.t 52,.t 53,.t 55],mV 12 56]) (.seq (.reg [mV 57 0,⟨(some 58),none,.nilchk (.t 57)⟩,mG 59 5 58,mV 60 2,mC 61 Fn.Uc [.t 59,.t 60],mV 13 61]) (.seq (.regD Ae zX) (.seq (.regD zn zI) (.seq (.reg [mF 82 3 11,⟨none,none,.store 1 (.t 82) (.c (.int .i64 3))⟩]) (.seq (.reg [mV 83 2,mF 84 8 11,mS 1 84 83]) (.seq (.reg [mV 85 15,mF 86 9 11,mS 1 86 85]) (.seq (.reg [mF 87 10 11,⟨none,none,.store 1 (.t 87) (.c (.int .i64 0))⟩]) (.seq (.reg [mF 88 6 11,mL 89 1 88,mV 16 89]) (.seq (.reg [⟨(some 90),none,.bsl 7 0 [.int .i64 0,.str ⟨#[]⟩,.nils,.int .i64 0,.int .i64 0,.int .i64 0,.int .i64 0] []⟩,mF 91 6 11,mS 1 91 90]) (.seq (.regD zj zp) (.seq (.reg [mV 100 0,mV 101 2,mV 102 3,mV 103 4,mV 104 15,mF 105 1 6,mL 106 1 105,mV 107 12,mF 108 4 6,mG 109 3 108,⟨(some 110),none,.build [.int .i64 0,.int .i64 0,.int .i64 0,.int .i64 0,.str ⟨#[]⟩,.nils,.int .i64 0,.int .i64 0,.int .i64 0,.int .i64 0,.int .i64 0,.int .i64 0] [(0,1,.c (.int .i64 1)),(1,1,.t 102),(2,1,.t 103),(3,1,.t 104),(4,1,.t 106),(5,1,.t 107),(9,3,.t 109)]⟩,mC 111 Fn.TL [.t 100,.t 101,.t 110]]) (.seq (.seq (.reg [mK 17 0]) (.block 0 (.loop (.seq (.seq (.reg [mV 112 17,mV 113 16,mN 114 113,mB 115 .lss 112 114]) (.cond (.t 115) .skip (.exit 0))) (.seq (.block 1 (.reg [mV 118 0,mV 119 16,mV 120 17,mX 121 7 119 120,mG 122 7 121,mC 123 Fn.Tv [.t 118,.t 122]])) (.reg [mV 116 17,mI 117 .add 116 1,mV 17 117])))))) (.seq (.reg [mT 10 true]) .ret)))))))))))))))))
def kg:List RS:=[.t 10]
def Ev(t0 t16 t17:AV)(loc:List (List AV))(h:AH):St:=⟨[t0,zz,zz,zz,zz,zz,zz,zz,zz,zz,zz,zz,zz,zz,zz,zz,t16,t17,zz,zz,zz,zz,zz,zz,zz,zz,zz,zz,zz,zz,zz,zz,zz,zz,zz,zz,zz,zz,zz,zz,zz,zz,zz,zz,zz,zz,zz,zz,zz,zz,zz,zz,zz,zz,zz,zz,zz,zz,zz,zz,zz,zz,zz,zz,zz,zz,zz,zz,zz,zz,zz,zz,zz,zz,zz,zz,zz,zz,zz,zz,zz,zz,zz,zz,zz,zz,zz,zz,zz,zz,zz,zz,zz,zz,zz,zz,zz,zz,zz,zz,zz,zz,zz,zz,zz,zz,zz,zz,zz,zz,zz,zz,zz,zz,zz,zz,zz,zz,zz,zz,zz,zz,zz,zz],loc,h⟩
theorem Vd(hw:TC pQ Θ Γ Oe (aV kg K) ⟨a0::a1::a2::a3::a4::u8 (u8 (u8 (u8 (u8 (u8 (u8 (u8 (u8 (u8 (u8 (u8 (u8 (u8 [u,u,u,u,u,u,u]))))))))))))),[],h⟩):T pQ Γ Fn.Pp [a0,a1,a2,a3,a4] h K:=
 TB Tryz.func256 (aH Tryz.f256) hw
noncomputable def XV:=CF Tryz.f257 R0
def Xq:List RS:=[.t 4]
def kbJ_s0(t0 t1 t7 t8:AV)(loc:List (List AV))(h:AH):St:=⟨[t0,t1,zz,zz,zz,zz,zz,t7,t8,zz,zz,zz,zz,zz,zz,zz,zz,zz,zz],loc,h⟩
theorem P8(hw:TC pQ Θ Γ XV.1 (aV Xq K) ⟨a0::a1::u8 (u8 [u]),[],h⟩):T pQ Γ Fn.kbJ [a0,a1] h K:=
 TB Tryz.func257 (aH Tryz.f257) hw
noncomputable def SA:=CF Tryz.f258 R0
def QK:List RS:=[.t 3]
theorem kaq_e(hw:TC pQ Θ Γ SA.1 (aV QK K) ⟨[a0,a1,u,u,u,u,u,u],[],h⟩):T pQ Γ Fn.kaq [a0,a1] h K:=
 TB Tryz.func258 (aH Tryz.f258) hw
noncomputable def XE:=CF Tryz.f259 R0
def XU:List RS:=[.t 4]
def kbK_s0(t0 t1 t7 t8:AV)(loc:List (List AV))(h:AH):St:=⟨[t0,t1,zz,zz,zz,zz,zz,t7,t8,zz,zz,zz,zz,zz,zz,zz,zz,zz,zz],loc,h⟩
theorem Rv(hw:TC pQ Θ Γ XE.1 (aV XU K) ⟨a0::a1::u8 (u8 [u]),[],h⟩):T pQ Γ Fn.kbK [a0,a1] h K:=
 TB Tryz.func259 (aH Tryz.f259) hw
noncomputable def kbI_c:=CF Tryz.f260 R0
def ZY:List RS:=[.t 4]
def kbI_s0(t0 t1 t7 t8:AV)(loc:List (List AV))(h:AH):St:=⟨[t0,t1,zz,zz,zz,zz,zz,t7,t8,zz,zz,zz,zz,zz,zz,zz,zz,zz,zz],loc,h⟩
theorem PM(hw:TC pQ Θ Γ kbI_c.1 (aV ZY K) ⟨a0::a1::u8 (u8 [u]),[],h⟩):T pQ Γ Fn.kbI [a0,a1] h K:=
 TB Tryz.func260 (aH Tryz.f260) hw
noncomputable def On:=CF Tryz.f261 R0
def Pg:List RS:=[.t 3]
theorem XM(hw:TC pQ Θ Γ On.1 (aV Pg K) ⟨[a0,a1,u,u,u,u,u,u],[],h⟩):T pQ Γ Fn.kat [a0,a1] h K:=
 TB Tryz.func261 (aH Tryz.f261) hw
noncomputable def Oc:=CF Tryz.f266 R0
def RI:List RS:=[.t 3]
theorem U9(hw:TC pQ Θ Γ Oc.1 (aV RI K) ⟨[a0,a1,u,u,u,u,u,u],[],h⟩):T pQ Γ Fn.kaw [a0,a1] h K:=
 TB Tryz.func266 (aH Tryz.f266) hw
noncomputable def wC:=CR Tryz.f283 0
theorem Fe:QT Γ Tryz.f283 0 wC.1 5 (qs [0,1,2] (.st 3 [23] (qs [4] .done))):=qt wC.2
noncomputable def SY:=CF Tryz.f283 (RG Tryz.f283)
def Lx:List RS:=[.cell 4 7 true,.t 5]
theorem ZI(hw:TC pQ Θ Γ SY.1 (aV Lx K) ⟨a0::a1::u8 (u8 [u,u,u,u,u,u,u]),[],h⟩):T pQ Γ Fn.Vp [a0,a1] h K:=
 TB Tryz.func283 (aH Tryz.f283) hw
noncomputable def Q3:=CF Tryz.f284 R0
def C5:List RS:=[.t 2]
theorem WR(hw:TC pQ Θ Γ Q3.1 (aV C5 K) ⟨a0::u8 (u8 [u,u,u,u]),[],h⟩):T pQ Γ Fn.kan [a0] h K:=
 TB Tryz.func284 (aH Tryz.f284) hw
noncomputable def Td:=CF Tryz.f285 R0
def CK:List RS:=[.t 2]
theorem WY(hw:TC pQ Θ Γ Td.1 (aV CK K) ⟨a0::u8 [u,u],[],h⟩):T pQ Γ Fn.kbe [a0] h K:=
 TB Tryz.func285 (aH Tryz.f285) hw
noncomputable def Oz:=CF Tryz.f286 R0
def De:List RS:=[.t 6]
def D3(t0 t1 t7 t11 t12 t13:AV)(loc:List (List AV))(h:AH):St:=⟨[t0,t1,zz,zz,zz,zz,zz,t7,zz,zz,zz,t11,t12,t13,zz,zz,zz,zz,zz,zz,zz,zz,zz,zz,zz,zz],loc,h⟩
theorem YE(hw:TC pQ Θ Γ Oz.1 (aV De K) ⟨a0::a1::a2::u8 (u8 [u,u,u,u,u,u,u]),[],h⟩):T pQ Γ Fn.ka6 [a0,a1,a2] h K:=
 TB Tryz.func286 (aH Tryz.f286) hw
noncomputable def wB:=CR Tryz.f287 0
theorem F0:QT Γ Tryz.f287 0 wB.1 16 (qs [0,1,2,3,4,5,6,7,8,9,10] (.all [(11,qs [12,13,14,15] .done)])):=qt wB.2
noncomputable def Ol:=CF Tryz.f287 (RG Tryz.f287)
def Mp:List RS:=[.t 4]
theorem ZT(hw:TC pQ Θ Γ Ol.1 (aV Mp K) ⟨a0::a1::u8 (u8 (u8 [u,u,u,u,u])),[],h⟩):T pQ Γ Fn.kar [a0,a1] h K:=
 TB Tryz.func287 (aH Tryz.f287) hw
noncomputable def R6:=CF Tryz.f288 R0
def Df:List RS:=[.t 6]
def DQ(t0 t1 t2 t7 t8:AV)(loc:List (List AV))(h:AH):St:=⟨[t0,t1,t2,zz,zz,zz,zz,t7,t8,zz,zz,zz,zz,zz,zz,zz,zz,zz,zz,zz,zz,zz,zz,zz,zz,zz,zz],loc,h⟩
theorem Vx(hw:TC pQ Θ Γ R6.1 (aV Df K) ⟨a0::a1::a2::u8 (u8 (u8 [])),[],h⟩):T pQ Γ Fn.kcE [a0,a1,a2] h K:=
 TB Tryz.func288 (aH Tryz.f288) hw
end Go.Proofs.YtolciaflplefcaaGreat
