import Derived.Test.YtolciaflplefcaaGreatR6G22
import Derived.Test.YtolciaflplefcaaGreatR6G20
import Derived.Test.YtolciaflplefcaaGreatR6G21
import Derived.Test.YtolciaflplefcaaGreatR6G19
import Derived.Test.YtolciaflplefcaaGreatAmG10
set_option linter.unusedVariables false
set_option linter.unusedSimpArgs false
open Go.Proofs.Tryz renaming prog→pQ
open Nat renaming reduceAdd→Aaa,reduceBEq→Aab,lt_irrefl→Aag,le_refl→Aap
open List renaming getElem?_append_left→Aac,length_map→Aad,nodup_append→Aae,all_cons→Aah,all_nil→Aai,getElem_mem→Aaj,not_mem_nil→Aak,getElem_map→Aal,mem_append→Aam,mem_cons→Aan,all→Aao,map_append→Aaq,map_set→Aau
open Bool renaming false_eq_true→Aaf,false_and→Aar,and_false→Aas,and_self→Aat
namespace Go.Proofs.YtolciaflplefcaaGreat
open Go.AM
variable {Γ:bG}
def GD(l:aF)(q:Int):aF:={ l with answers:=nN l.answers q }
def uF(v:ar)(peer:Int)(m:ah):ar:=
 if pX m=true∧rO v.aq peer=true then
  (if m.kind=3 then (if ((fJ v peer).answers.any fun q=>q.id == m.question)=true then e8 v peer (gU 4 m.question)else v)
  else if m.kind=5 then dU v (sg v peer) (GD (fJ v peer) m.question)
  else if m.kind=6 then dU v (sg v peer) (qo (fJ v peer) m.pos m.count)
  else v)
 else v
set_option maxHeartbeats 8000000 in
set_option maxRecDepth 100000 in
theorem OM(v:ar)(hvi:VI v)(hw:wV v≤400000)(peer:Int)(β:Bool)(m:ah)(hm:m.args.length≤1048576)(hn:m.name.size≤1048576)(H:AH){b:Nat}{f:List Nat}(a:jr H b v f):
 T pQ Γ Fn.kcT [.gp b 0 0,.int .i64 peer,.agg (m.c β)] H fun r H'=>r=.tup []∧e9 H b (fun c=>c∈f) H' (uF v peer m):=by
 obtain⟨R,hR⟩:∃R,R=uF v peer m:=⟨_,rfl⟩
 rw[←hR];unfold uF at hR;obtain⟨wE,w2,wL,w4,fE,f2,fL,f4,rfl,o⟩:=a;have hE:v.entities.length≤1048576:=by have:=hvi.fH;omega
 have hL:v.aq.length≤1048576:=by have:=hvi.aq;omega
 have hb:=o.hb;have blt:=o.blt;have cb:=VO.Cp hb;obtain⟨a1,a2,a3,a4⟩:=o.oE.cell;obtain⟨b1,b2,b3,b4⟩:=o.o2.cell;obtain⟨c1,c2,c3,c4⟩:=o.oL.cell;obtain⟨d1,d2,d3,d4⟩:=o.o4.cell;have stop:R=v→e9 H b (fun c=>c∈dh fE f2 fL f4) H R:=fun e=>by rw[e];exact e9.refl o.at fun c hc=>hc
 refine WH (aC aG mixed [] _ _ _ ?_);unfold RL;simp only[au,Aaa,Aab,rD,kb,ke,ko,iD,iH,iF,ot,ag,ae,ah.c,aJ.c,cb,a1,a2,a3,b1,b2,b3,c1,c2,c3,d1,d2,d3];refine al.val (by simp only[EO]) (HM β m hn hm _) ?_;cases im:pX m
 ·simp only[au,Aaa,Aab,rD,kb,ke,ko,iD,iH,iF,ot,ag,ae,ah.c,aJ.c,cb,a1,a2,a3,b1,b2,b3,c1,c2,c3,d1,d2,d3];have sp:=stop (by rw[hR,if_neg (fun h=>by rw[im]at h;cases h.1)]);first|exact⟨rfl,sp⟩|exact⟨rfl,rfl,sp⟩|exact sp
 simp only[au,Aaa,Aab,rD,kb,ke,ko,iD,iH,iF,ot,ag,ae,ah.c,aJ.c,cb,a1,a2,a3,b1,b2,b3,c1,c2,c3,d1,d2,d3];refine al.fk (by simp only[EO,a3,b3,c3,d3]) (aI (aM.fk (ar.bO true v) o.own) (aI (.same _) aZ)) (fun h=>pg true v hL peer h) (.bool _) ?_;cases hu:rO v.aq peer
 ·simp only[au,Aaa,Aab,rD,kb,ke,ko,iD,iH,iF,ot,ag,ae,ah.c,aJ.c,cb,a1,a2,a3,b1,b2,b3,c1,c2,c3,d1,d2,d3];have sp:=stop (by rw[hR,if_neg (fun h=>by rw[hu]at h;cases h.2)]);first|exact⟨rfl,sp⟩|exact⟨rfl,rfl,sp⟩|exact sp
 obtain⟨k,hk,ek,ef⟩:=pM hu;rw[if_pos ⟨im,hu⟩,ib hk ek,show sg v peer=k by rw[sg,ek];rfl]at hR;simp only[au,Aaa,Aab,rD,kb,ke,ko,iD,iH,iF,ot,ag,ae,ah.c,aJ.c,cb,a1,a2,a3,b1,b2,b3,c1,c2,c3,d1,d2,d3];refine al.fk (by simp only[EO,a3,b3,c3,d3]) (aI (aM.fk (ar.bO true v) o.own) (aI (.same _) aZ)) (fun h=>yF true v hL peer h) (.int _ _) ?_;rw[ek];obtain⟨bL,gL,nL,row,f0,iL,rL,lR,oR,nf0,sf0,bmL,bnL,wrL⟩:=o.tM hk;have hlok:=hvi.Cu.mono (show wV v+100≤1048576 by omega) _ (Aaj hk);obtain⟨wX,wQ,wA,fX,fQ,fA,rfl,rfl,oX,oQ,oA⟩:=ck oR;obtain⟨x1,x2,x3,x4⟩:=oX.cell;obtain⟨y1,y2,y3,y4⟩:=oQ.cell;obtain⟨z1,z2,z3,z4⟩:=oA.cell;have rd6:∀(e:List AV) (L:List (List AV)),(St.mk e L H).cells (.gp bL gL (nL+6)) 1=some [wA]:=fun e L=>by
  obtain⟨wrd,_⟩:=wrL H 6 [wA] v.aq[k] (fX++(fQ++fA)) [] (Aap _) (fun c hc=>by cases hc) (fun _ _ _ _=>rfl) (by simp) (by simp[z3]) (gB oX oQ oA) nf0 (fun c hc=>.inl hc);exact(wrd e L 6 1).resolve_right (by omega)
 by_cases k3:m.kind=3
 ·rw[if_pos k3]at hR;simp only[au,Aaa,Aab,rD,kb,ke,ko,iD,iH,iF,ot,ag,ae,ah.c,aJ.c,cb,a1,a2,a3,b1,b2,b3,c1,c2,c3,d1,d2,d3,aR k3,iL,rd6,z1,z2,z3];refine al.fk (by simp only[EO,z3,z4]) (aI (b9.fk (aB.bO true) oA) (aI (.same _) aZ)) (fun h=>S9 true v.aq[k].answers hlok.2.2 m.question h) (.bool _) ?_;cases hh:v.aq[k].answers.any fun q=>q.id == m.question
  ·simp only[au,Aaa,Aab,rD,kb,ke,ko,iD,iH,iF,ot,ag,ae,ah.c,aJ.c,cb,a1,a2,a3,b1,b2,b3,c1,c2,c3,d1,d2,d3];have sp:=stop (by rw[hR,if_neg (by rw[hh];simp)]);first|exact⟨rfl,sp⟩|exact⟨rfl,rfl,sp⟩|exact sp
  simp only[au,Aaa,Aab,rD,kb,ke,ko,iD,iH,iF,ot,ag,ae,ah.c,aJ.c,cb,a1,a2,a3,b1,b2,b3,c1,c2,c3,d1,d2,d3];have hout:v.out.length≤1048576:=by rw[yr]at hw;omega
  refine al.ref rfl (Dp v hL hout peer (gU 4 m.question) H o.at (sC H 4 m.question) List.nodup_nil (fun c hc=>by cases hc)) ?_;rintro _ H4 ⟨rfl,u4⟩;replace u4:e9 H b (fun c=>c∈dh fE f2 fL f4∨c∈[]) H4 _:=u4;have fin:e9 H b (fun c=>c∈dh fE f2 fL f4) H4 R:=by
   rw[hR,if_pos hh];exact u4.mono fun c hc=>hc.elim id fun h=>by cases h
  simp only[au,Aaa,Aab,rD,kb,ke,ko,iD,iH,iF,ot,ag,ae,ah.c,aJ.c];first|exact⟨rfl,fin⟩|exact⟨rfl,rfl,fin⟩|exact fin
 rw[if_neg k3]at hR;obtain⟨nX,nQA,dX⟩:=Aae.1 nf0;obtain⟨nQ,nA,dQ⟩:=Aae.1 nQA;by_cases k5:m.kind=5
 ·rw[if_pos k5]at hR;simp only[au,Aaa,Aab,rD,kb,ke,ko,iD,iH,iF,ot,ag,ae,ah.c,aJ.c,cb,a1,a2,a3,b1,b2,b3,c1,c2,c3,d1,d2,d3,aW k3,aR k5,iL,rd6,z1,z2,z3];refine al.own (by simp only[EO,z3,z4]) (aI (b9.fk (aB.bO true) oA) (aI (.same _) aZ)) (fun h=>Sa true v.aq[k].answers hlok.2.2 m.question h) ?_;rintro w H2 fr;replace fr:aX H _ _ _:=fr;obtain⟨fw,ow,nw,bw,ew⟩:=fr.c1;obtain⟨q1,q2,q3,q4⟩:=ow.cell;refine⟨lG fun r hr=>by
   simp only[Aan,Aak,or_false]at hr;subst hr;exact .inr ⟨_,_,_,rfl,ew.fr b blt⟩,?_⟩
  obtain⟨_,H3,f3,s3,l3,r3,a3v,m3⟩:=wrL H2 6 [w] (GD v.aq[k] m.question) (fX++(fQ++fw)) [] ew.len (fun c hc=>by cases hc) (fun c h1 _ _=>ew.fr c h1) (by simp) (by simp[q3])
   (gB (l:=GD v.aq[k] m.question) (oX.frame fun c hc=>ew.fr c (oX.lt c hc)) (oQ.frame fun c hc=>ew.fr c (oQ.lt c hc)) ow)
   (Aae.2 ⟨nX,Aae.2 ⟨nQ,nw,fun x hx y hy e=>by have:=bw y hy;have:=oQ.lt x hx;omega⟩,fun x hx y hy e=>by
    rcases Aam.1 hy with s|s
    ·exact dX x hx y (by simp[s]) e
    ·have:=oX.lt x hx;have:=bw y s;omega⟩)
   (fun c hc=>by
    simp only[Aam]at hc ⊢;rcases hc with s|s|s
    ·exact .inl (.inl s)
    ·exact .inl (.inr (.inl s))
    ·exact .inr (.inr (bw c s)))
  have l2:=ew.len;have a3R:jr H3 b R f3:=by rw[hR];exact a3v
  simp only[au,Aaa,Aab,rD,kb,ke,ko,iD,iH,iF,ot,ag,ae,ah.c,aJ.c,cb,a1,a2,a3,b1,b2,b3,c1,c2,c3,d1,d2,d3,iL,q1,q2,q3,s3];have fin:e9 H b (fun c=>c∈dh fE f2 fL f4) H3 R:=⟨f3,a3R,by omega,fun c hc=>by
   rcases m3 c hc with⟨s,_⟩|s
   ·exact .inl s
   ·simp only[Aam]at s;rcases s with s|s|s
    ·exact .inl (aO.2 (.inr (.inr (.inl (sf0 c (by simp[s]))))))
    ·exact .inl (aO.2 (.inr (.inr (.inl (sf0 c (by simp[s]))))))
    ·exact .inr (bw c s),fun c h1 _ h3=>by
   rw[r3 c (fun e=>h1 (e▸aO.2 (.inr (.inr (.inl bmL))))),ew.fr c h3]⟩
  first|exact⟨rfl,fin⟩|exact⟨rfl,rfl,fin⟩|exact fin
 rw[if_neg k5]at hR;by_cases k6:m.kind=6;rotate_left
 ·rw[if_neg k6]at hR;simp only[au,Aaa,Aab,rD,kb,ke,ko,iD,iH,iF,ot,ag,ae,ah.c,aJ.c,cb,a1,a2,a3,b1,b2,b3,c1,c2,c3,d1,d2,d3,aW k3,aW k5,aW k6];have sp:=stop hR;first|exact⟨rfl,sp⟩|exact⟨rfl,rfl,sp⟩|exact sp
 rw[if_pos k6]at hR;simp only[au,Aaa,Aab,rD,kb,ke,ko,iD,iH,iF,ot,ag,ae,ah.c,aJ.c,cb,a1,a2,a3,b1,b2,b3,c1,c2,c3,d1,d2,d3,aW k3,aW k5,aR k6,iL,rL,x1,x2,x3,y1,y2,y3,z1,z2,z3];refine al.own (by simp only[EO,x3,x4,y3,y4,z3,z4]) (aI (aM.fk (aF.bO true v.aq[k]) oR) (aI (.same _) (aI (.same _) aZ))) (fun h=>kcl_T true v.aq[k] hlok m.pos m.count h) ?_;rintro w H2 fr;replace fr:aX H _ _ _:=fr;obtain⟨aw,fw,rfl,ow,nw,bw,ew⟩:=fr.a1;obtain⟨wX1,wQ1,wA1,fX1,fQ1,fA1,rfl,rfl,oX1,oQ1,oA1⟩:=ck ow;obtain⟨p1,p2,p3,p4⟩:=oX1.cell;obtain⟨q1,q2,q3,q4⟩:=oQ1.cell;obtain⟨r1,r2,r3,r4⟩:=oA1.cell;refine⟨lG fun r hr=>by
  simp only[Aan,Aak,or_false]at hr;subst hr;exact .inr ⟨_,_,_,rfl,ew.fr b blt⟩,?_⟩
 obtain⟨_,H3,f3,s3,l3,rr3,a3v,m3⟩:=wrL H2 0 [.int .i64 (qo v.aq[k] m.pos m.count).peer,.bool (qo v.aq[k] m.pos m.count).up,wX1,.int .i64 (qo v.aq[k] m.pos m.count).next,wQ1,.int .i64 (qo v.aq[k] m.pos m.count).asked,wA1] (qo v.aq[k] m.pos m.count) (fX1++(fQ1++fA1)) [] ew.len (fun c hc=>by cases hc) (fun c h1 _ _=>ew.fr c h1) (by simp) (by simp only[je,jg,p3,q3,r3];rfl)
  ow nw (fun c hc=>.inr (.inr (bw c hc)))
 have l2:=ew.len;have a3R:jr H3 b R f3:=by rw[hR];exact a3v
 rw[Nat.add_zero]at s3;simp only[au,Aaa,Aab,rD,kb,ke,ko,iD,iH,iF,ot,ag,ae,ah.c,aJ.c,cb,a1,a2,a3,b1,b2,b3,c1,c2,c3,d1,d2,d3,iL,p1,p2,p3,q1,q2,q3,r1,r2,r3,s3];have fin:e9 H b (fun c=>c∈dh fE f2 fL f4) H3 R:=⟨f3,a3R,by omega,fun c hc=>by
  rcases m3 c hc with⟨s,_⟩|s
  ·exact .inl s
  ·exact .inr (bw c s),fun c h1 _ h3=>by
  rw[rr3 c (fun e=>h1 (e▸aO.2 (.inr (.inr (.inl bmL))))),ew.fr c h3]⟩
 first|exact⟨rfl,fin⟩|exact⟨rfl,rfl,fin⟩|exact fin
def kq(v:ar)(peer:Int)(m:ah):ar:=if m.kind=1 then km v peer m else if m.kind=2 then ng v peer m else if m.kind=4 then nJ v peer m else uF v peer m
set_option maxHeartbeats 4000000 in
set_option maxRecDepth 100000 in
theorem kcW_X{K:Nat}(v:ar)(g:GI K v)(hK:K+10≤100)(peer:Int)(β:Bool)(m:ah)(hm:m.args.length≤4)(hn:m.name.size≤100)(H:AH){b:Nat}{f:List Nat}(a:jr H b v f):
 T pQ Γ Fn.kcW [.gp b 0 0,.int .i64 peer,.agg (m.c β)] H fun r H'=>r=.tup []∧e9 H b (fun c=>c∈f) H' (kq v peer m):=by
 have gw:=g.w;refine X5 (aC aG mixed [] _ _ _ ?_);unfold Q5;by_cases k1:m.kind=1
 ·simp only[au,Aaa,Aab,yH,A3,ah.c,ag,ae,aR k1];refine al.ref (by simp only[EO]) (PH v g hK peer β m hm hn H a) ?_;rintro _ H5 ⟨rfl,_,fin⟩;rw[show km v peer m=kq v peer m by rw[kq,if_pos k1]]at fin;simp only[au,Aaa,Aab,yH,A3,ah.c,ag,ae];first|exact⟨rfl,fin⟩|exact⟨rfl,rfl,fin⟩|exact fin
 by_cases k2:m.kind=2
 ·simp only[au,Aaa,Aab,yH,A3,ah.c,ag,ae,aW k1,aR k2];refine al.ref (by simp only[EO]) (QZ v g (by omega) peer β m hm hn H a) ?_;rintro _ H5 ⟨rfl,_,fin⟩;rw[show ng v peer m=kq v peer m by rw[kq,if_neg k1,if_pos k2]]at fin;simp only[au,Aaa,Aab,yH,A3,ah.c,ag,ae];first|exact⟨rfl,fin⟩|exact⟨rfl,rfl,fin⟩|exact fin
 by_cases k4:m.kind=4
 ·simp only[au,Aaa,Aab,yH,A3,ah.c,ag,ae,aW k1,aW k2,aR k4];refine al.ref (by simp only[EO]) (Nu v g (by omega) peer β m hm hn H a) ?_;rintro _ H5 ⟨rfl,_,fin⟩;rw[show nJ v peer m=kq v peer m by rw[kq,if_neg k1,if_neg k2,if_pos k4]]at fin;simp only[au,Aaa,Aab,yH,A3,ah.c,ag,ae];first|exact⟨rfl,fin⟩|exact⟨rfl,rfl,fin⟩|exact fin
 simp only[au,Aaa,Aab,yH,A3,ah.c,ag,ae,aW k1,aW k2,aW k4];refine al.ref (by simp only[EO]) (OM v g.vi (by omega) peer β m (by omega) (by omega) H a) ?_;rintro _ H5 ⟨rfl,fin⟩;rw[show uF v peer m=kq v peer m by rw[kq,if_neg k1,if_neg k2,if_neg k4]]at fin;simp only[au,Aaa,Aab,yH,A3,ah.c,ag,ae];first|exact⟨rfl,fin⟩|exact⟨rfl,rfl,fin⟩|exact fin
set_option maxHeartbeats 4000000 in
set_option maxRecDepth 100000 in
theorem V4{K:Nat}(β β':Bool)(v:ar)(g:GI K v)(hK:K+10≤100)(peer:Int)(m:ah)(hm:m.args.length≤4)(hn:m.name.size≤100)(h:AH):
 T pQ Γ Fn.kcg [.agg (v.c β),.int .i64 peer,.agg (m.c β')] h (aX h [.a (km v peer m).cd]):=by
 refine T.jJ ?_;have gw:=g.w;refine WU (aC aG mixed [7] _ _ _ ?_);unfold NJ;simp only[au,Aaa,Aab,IW,bC,ar.c,ah.c];refine al.ref (by simp only[EO]) (Aq β v (g.vi.Gt.mono (by omega)) _) ?_;rintro w H1 fr;replace fr:aX h _ _ _:=fr;obtain⟨ac,f,rfl,o,nd,bb,eg⟩:=fr.a1;obtain⟨wE,w2,wL,w4,fE,f2,fL,f4,rfl,rfl,oE,o2,oL,o4⟩:=kJ o;obtain⟨a1,a2,a3,a4⟩:=oE.cell;obtain⟨b1,b2,b3,b4⟩:=o2.cell;obtain⟨c1,c2,c3,c4⟩:=oL.cell;obtain⟨d1,d2,d3,d4⟩:=o4.cell;obtain⟨H2,s2,hb2,l2,r2⟩:=pA (H:=H1) (z:=[.int .i64 0,.nils,.nils,.nils,.nils]) (cells:=[.int .i64 v.id,wE,w2,wL,w4]) rfl (by simp only[je,jg,a3,b3,c3,d3];rfl);have lt1:∀c∈fE++(f2++(fL++f4)),c<H1.length:=fun c hc=>o.lt c hc;have vat2:jr H2 H1.length v (fE++(f2++(fL++f4))):=jr.of hb2 (o.frame fun c hc=>r2 c (lt1 c hc)) nd (fun hc=>Aag _ (lt1 _ hc));simp only[au,Aaa,Aab,IW,bN,pf _ _ (show Aao [AV.int .i64 0,.nils,.nils,.nils,.nils] bM=true from rfl),jH,a1,a2,a3,b1,b2,b3,c1,c2,c3,d1,d2,d3,s2];refine al.ref (by simp only[EO]) (PH v g hK peer β' m hm hn H2 vat2) ?_;rintro _ H3 ⟨rfl,_,u3⟩;obtain⟨wE',w2',wL',w4',_,_,_,_,o3,own3,nd3,bb3',N,hN⟩:=kN eg l2 r2 bb u3;obtain⟨aa1,aa2,aa3,aa4⟩:=o3.oE.cell;obtain⟨bb1,bb2,bb3,bb4⟩:=o3.o2.cell;obtain⟨cc1,cc2,cc3,cc4⟩:=o3.oL.cell;obtain⟨dd1,dd2,dd3,dd4⟩:=o3.o4.cell;have cb3:∀(e:List AV) (L:List (List AV)) (off n:Nat),(St.mk e L H3).cells (.gp H1.length 0 off) n=sub _ off n:=fun e L off n=>b8 o3.hb;simp only[au,Aaa,Aab,IW,bN,cb3,aa1,aa2,aa3,bb1,bb2,bb3,cc1,cc2,cc3,dd1,dd2,dd3];exact⟨by first|simp only[Aah,Aai,EO,aa3,aa4,bb3,bb4,cc3,cc4,dd3,dd4]|(simp only[cY,EO,aa3,aa4,bb3,bb4,cc3,cc4,dd3,dd4])|(show gq _=true;simp only[EO,aa3,aa4,bb3,bb4,cc3,cc4,dd3,dd4]),_,N,_,rfl,hN,own3,nd3,bb3'⟩
set_option maxHeartbeats 4000000 in
set_option maxRecDepth 100000 in
theorem X3{K:Nat}(β β':Bool)(v:ar)(g:GI K v)(hK:K+10≤100)(peer:Int)(m:ah)(hm:m.args.length≤4)(hn:m.name.size≤100)(h:AH):
 T pQ Γ Fn.kcj [.agg (v.c β),.int .i64 peer,.agg (m.c β')] h (aX h [.a (ng v peer m).cd]):=by
 refine T.jJ ?_;have gw:=g.w;refine Um (aC aG mixed [7] _ _ _ ?_);unfold QS;simp only[au,Aaa,Aab,HT,bC,ar.c,ah.c];refine al.ref (by simp only[EO]) (Aq β v (g.vi.Gt.mono (by omega)) _) ?_;rintro w H1 fr;replace fr:aX h _ _ _:=fr;obtain⟨ac,f,rfl,o,nd,bb,eg⟩:=fr.a1;obtain⟨wE,w2,wL,w4,fE,f2,fL,f4,rfl,rfl,oE,o2,oL,o4⟩:=kJ o;obtain⟨a1,a2,a3,a4⟩:=oE.cell;obtain⟨b1,b2,b3,b4⟩:=o2.cell;obtain⟨c1,c2,c3,c4⟩:=oL.cell;obtain⟨d1,d2,d3,d4⟩:=o4.cell;obtain⟨H2,s2,hb2,l2,r2⟩:=pA (H:=H1) (z:=[.int .i64 0,.nils,.nils,.nils,.nils]) (cells:=[.int .i64 v.id,wE,w2,wL,w4]) rfl (by simp only[je,jg,a3,b3,c3,d3];rfl);have lt1:∀c∈fE++(f2++(fL++f4)),c<H1.length:=fun c hc=>o.lt c hc;have vat2:jr H2 H1.length v (fE++(f2++(fL++f4))):=jr.of hb2 (o.frame fun c hc=>r2 c (lt1 c hc)) nd (fun hc=>Aag _ (lt1 _ hc));simp only[au,Aaa,Aab,HT,bN,pf _ _ (show Aao [AV.int .i64 0,.nils,.nils,.nils,.nils] bM=true from rfl),jH,a1,a2,a3,b1,b2,b3,c1,c2,c3,d1,d2,d3,s2];refine al.ref (by simp only[EO]) (QZ v g (by omega) peer β' m hm hn H2 vat2) ?_;rintro _ H3 ⟨rfl,_,u3⟩;obtain⟨wE',w2',wL',w4',_,_,_,_,o3,own3,nd3,bb3',N,hN⟩:=kN eg l2 r2 bb u3;obtain⟨aa1,aa2,aa3,aa4⟩:=o3.oE.cell;obtain⟨bb1,bb2,bb3,bb4⟩:=o3.o2.cell;obtain⟨cc1,cc2,cc3,cc4⟩:=o3.oL.cell;obtain⟨dd1,dd2,dd3,dd4⟩:=o3.o4.cell;have cb3:∀(e:List AV) (L:List (List AV)) (off n:Nat),(St.mk e L H3).cells (.gp H1.length 0 off) n=sub _ off n:=fun e L off n=>b8 o3.hb;simp only[au,Aaa,Aab,HT,bN,cb3,aa1,aa2,aa3,bb1,bb2,bb3,cc1,cc2,cc3,dd1,dd2,dd3];exact⟨by first|simp only[Aah,Aai,EO,aa3,aa4,bb3,bb4,cc3,cc4,dd3,dd4]|(simp only[cY,EO,aa3,aa4,bb3,bb4,cc3,cc4,dd3,dd4])|(show gq _=true;simp only[EO,aa3,aa4,bb3,bb4,cc3,cc4,dd3,dd4]),_,N,_,rfl,hN,own3,nd3,bb3'⟩
set_option maxHeartbeats 4000000 in
set_option maxRecDepth 100000 in
theorem Zd{K:Nat}(β β':Bool)(v:ar)(g:GI K v)(hK:K+10≤100)(peer:Int)(m:ah)(hm:m.args.length≤4)(hn:m.name.size≤100)(h:AH):
 T pQ Γ Fn.kci [.agg (v.c β),.int .i64 peer,.agg (m.c β')] h (aX h [.a (nJ v peer m).cd]):=by
 refine T.jJ ?_;have gw:=g.w;refine Yt (aC aG mixed [7] _ _ _ ?_);unfold Sq;simp only[au,Aaa,Aab,Hz,bC,ar.c,ah.c];refine al.ref (by simp only[EO]) (Aq β v (g.vi.Gt.mono (by omega)) _) ?_;rintro w H1 fr;replace fr:aX h _ _ _:=fr;obtain⟨ac,f,rfl,o,nd,bb,eg⟩:=fr.a1;obtain⟨wE,w2,wL,w4,fE,f2,fL,f4,rfl,rfl,oE,o2,oL,o4⟩:=kJ o;obtain⟨a1,a2,a3,a4⟩:=oE.cell;obtain⟨b1,b2,b3,b4⟩:=o2.cell;obtain⟨c1,c2,c3,c4⟩:=oL.cell;obtain⟨d1,d2,d3,d4⟩:=o4.cell;obtain⟨H2,s2,hb2,l2,r2⟩:=pA (H:=H1) (z:=[.int .i64 0,.nils,.nils,.nils,.nils]) (cells:=[.int .i64 v.id,wE,w2,wL,w4]) rfl (by simp only[je,jg,a3,b3,c3,d3];rfl);have lt1:∀c∈fE++(f2++(fL++f4)),c<H1.length:=fun c hc=>o.lt c hc;have vat2:jr H2 H1.length v (fE++(f2++(fL++f4))):=jr.of hb2 (o.frame fun c hc=>r2 c (lt1 c hc)) nd (fun hc=>Aag _ (lt1 _ hc));simp only[au,Aaa,Aab,Hz,bN,pf _ _ (show Aao [AV.int .i64 0,.nils,.nils,.nils,.nils] bM=true from rfl),jH,a1,a2,a3,b1,b2,b3,c1,c2,c3,d1,d2,d3,s2];refine al.ref (by simp only[EO]) (Nu v g (by omega) peer β' m hm hn H2 vat2) ?_;rintro _ H3 ⟨rfl,_,u3⟩;obtain⟨wE',w2',wL',w4',_,_,_,_,o3,own3,nd3,bb3',N,hN⟩:=kN eg l2 r2 bb u3;obtain⟨aa1,aa2,aa3,aa4⟩:=o3.oE.cell;obtain⟨bb1,bb2,bb3,bb4⟩:=o3.o2.cell;obtain⟨cc1,cc2,cc3,cc4⟩:=o3.oL.cell;obtain⟨dd1,dd2,dd3,dd4⟩:=o3.o4.cell;have cb3:∀(e:List AV) (L:List (List AV)) (off n:Nat),(St.mk e L H3).cells (.gp H1.length 0 off) n=sub _ off n:=fun e L off n=>b8 o3.hb;simp only[au,Aaa,Aab,Hz,bN,cb3,aa1,aa2,aa3,bb1,bb2,bb3,cc1,cc2,cc3,dd1,dd2,dd3];exact⟨by first|simp only[Aah,Aai,EO,aa3,aa4,bb3,bb4,cc3,cc4,dd3,dd4]|(simp only[cY,EO,aa3,aa4,bb3,bb4,cc3,cc4,dd3,dd4])|(show gq _=true;simp only[EO,aa3,aa4,bb3,bb4,cc3,cc4,dd3,dd4]),_,N,_,rfl,hN,own3,nd3,bb3'⟩
set_option maxHeartbeats 4000000 in
set_option maxRecDepth 100000 in
theorem Uv{K:Nat}(β β':Bool)(v:ar)(g:GI K v)(hK:K+10≤100)(peer:Int)(m:ah)(hm:m.args.length≤4)(hn:m.name.size≤100)(h:AH):
 T pQ Γ Fn.kch [.agg (v.c β),.int .i64 peer,.agg (m.c β')] h (aX h [.a (uF v peer m).cd]):=by
 refine T.jJ ?_;have gw:=g.w;refine Wb (aC aG mixed [7] _ _ _ ?_);unfold Qa;simp only[au,Aaa,Aab,HC,bC,ar.c,ah.c];refine al.ref (by simp only[EO]) (Aq β v (g.vi.Gt.mono (by omega)) _) ?_;rintro w H1 fr;replace fr:aX h _ _ _:=fr;obtain⟨ac,f,rfl,o,nd,bb,eg⟩:=fr.a1;obtain⟨wE,w2,wL,w4,fE,f2,fL,f4,rfl,rfl,oE,o2,oL,o4⟩:=kJ o;obtain⟨a1,a2,a3,a4⟩:=oE.cell;obtain⟨b1,b2,b3,b4⟩:=o2.cell;obtain⟨c1,c2,c3,c4⟩:=oL.cell;obtain⟨d1,d2,d3,d4⟩:=o4.cell;obtain⟨H2,s2,hb2,l2,r2⟩:=pA (H:=H1) (z:=[.int .i64 0,.nils,.nils,.nils,.nils]) (cells:=[.int .i64 v.id,wE,w2,wL,w4]) rfl (by simp only[je,jg,a3,b3,c3,d3];rfl);have lt1:∀c∈fE++(f2++(fL++f4)),c<H1.length:=fun c hc=>o.lt c hc;have vat2:jr H2 H1.length v (fE++(f2++(fL++f4))):=jr.of hb2 (o.frame fun c hc=>r2 c (lt1 c hc)) nd (fun hc=>Aag _ (lt1 _ hc));simp only[au,Aaa,Aab,HC,bN,pf _ _ (show Aao [AV.int .i64 0,.nils,.nils,.nils,.nils] bM=true from rfl),jH,a1,a2,a3,b1,b2,b3,c1,c2,c3,d1,d2,d3,s2];refine al.ref (by simp only[EO]) (OM v g.vi (by omega) peer β' m (by omega) (by omega) H2 vat2) ?_;rintro _ H3 ⟨rfl,u3⟩;obtain⟨wE',w2',wL',w4',_,_,_,_,o3,own3,nd3,bb3',N,hN⟩:=kN eg l2 r2 bb u3;obtain⟨aa1,aa2,aa3,aa4⟩:=o3.oE.cell;obtain⟨bb1,bb2,bb3,bb4⟩:=o3.o2.cell;obtain⟨cc1,cc2,cc3,cc4⟩:=o3.oL.cell;obtain⟨dd1,dd2,dd3,dd4⟩:=o3.o4.cell;have cb3:∀(e:List AV) (L:List (List AV)) (off n:Nat),(St.mk e L H3).cells (.gp H1.length 0 off) n=sub _ off n:=fun e L off n=>b8 o3.hb;simp only[au,Aaa,Aab,HC,bN,cb3,aa1,aa2,aa3,bb1,bb2,bb3,cc1,cc2,cc3,dd1,dd2,dd3];exact⟨by first|simp only[Aah,Aai,EO,aa3,aa4,bb3,bb4,cc3,cc4,dd3,dd4]|(simp only[cY,EO,aa3,aa4,bb3,bb4,cc3,cc4,dd3,dd4])|(show gq _=true;simp only[EO,aa3,aa4,bb3,bb4,cc3,cc4,dd3,dd4]),_,N,_,rfl,hN,own3,nd3,bb3'⟩
set_option maxHeartbeats 4000000 in
set_option maxRecDepth 100000 in
theorem RM{K:Nat}(β β':Bool)(v:ar)(g:GI K v)(hK:K+10≤100)(peer:Int)(m:ah)(hm:m.args.length≤4)(hn:m.name.size≤100)(h:AH):
 T pQ Γ Fn.kcf [.agg (v.c β),.int .i64 peer,.agg (m.c β')] h (aX h [.a (kq v peer m).cd]):=by
 refine T.jJ ?_;have gw:=g.w;refine V1 (aC aG mixed [7] _ _ _ ?_);unfold RK;simp only[au,Aaa,Aab,IG,bC,ar.c,ah.c];refine al.ref (by simp only[EO]) (Aq β v (g.vi.Gt.mono (by omega)) _) ?_;rintro w H1 fr;replace fr:aX h _ _ _:=fr;obtain⟨ac,f,rfl,o,nd,bb,eg⟩:=fr.a1;obtain⟨wE,w2,wL,w4,fE,f2,fL,f4,rfl,rfl,oE,o2,oL,o4⟩:=kJ o;obtain⟨a1,a2,a3,a4⟩:=oE.cell;obtain⟨b1,b2,b3,b4⟩:=o2.cell;obtain⟨c1,c2,c3,c4⟩:=oL.cell;obtain⟨d1,d2,d3,d4⟩:=o4.cell;obtain⟨H2,s2,hb2,l2,r2⟩:=pA (H:=H1) (z:=[.int .i64 0,.nils,.nils,.nils,.nils]) (cells:=[.int .i64 v.id,wE,w2,wL,w4]) rfl (by simp only[je,jg,a3,b3,c3,d3];rfl);have lt1:∀c∈fE++(f2++(fL++f4)),c<H1.length:=fun c hc=>o.lt c hc;have vat2:jr H2 H1.length v (fE++(f2++(fL++f4))):=jr.of hb2 (o.frame fun c hc=>r2 c (lt1 c hc)) nd (fun hc=>Aag _ (lt1 _ hc));simp only[au,Aaa,Aab,IG,bN,pf _ _ (show Aao [AV.int .i64 0,.nils,.nils,.nils,.nils] bM=true from rfl),jH,a1,a2,a3,b1,b2,b3,c1,c2,c3,d1,d2,d3,s2];refine al.ref (by simp only[EO]) (kcW_X v g hK peer β' m hm hn H2 vat2) ?_;rintro _ H3 ⟨rfl,u3⟩;obtain⟨wE',w2',wL',w4',_,_,_,_,o3,own3,nd3,bb3',N,hN⟩:=kN eg l2 r2 bb u3;obtain⟨aa1,aa2,aa3,aa4⟩:=o3.oE.cell;obtain⟨bb1,bb2,bb3,bb4⟩:=o3.o2.cell;obtain⟨cc1,cc2,cc3,cc4⟩:=o3.oL.cell;obtain⟨dd1,dd2,dd3,dd4⟩:=o3.o4.cell;have cb3:∀(e:List AV) (L:List (List AV)) (off n:Nat),(St.mk e L H3).cells (.gp H1.length 0 off) n=sub _ off n:=fun e L off n=>b8 o3.hb;simp only[au,Aaa,Aab,IG,bN,cb3,aa1,aa2,aa3,bb1,bb2,bb3,cc1,cc2,cc3,dd1,dd2,dd3];exact⟨by first|simp only[Aah,Aai,EO,aa3,aa4,bb3,bb4,cc3,cc4,dd3,dd4]|(simp only[cY,EO,aa3,aa4,bb3,bb4,cc3,cc4,dd3,dd4])|(show gq _=true;simp only[EO,aa3,aa4,bb3,bb4,cc3,cc4,dd3,dd4]),_,N,_,rfl,hN,own3,nd3,bb3'⟩
set_option maxHeartbeats 1000000 in
theorem XR(v:ar)(x:aA)(H:AH){b:Nat}{f:List Nat}(a:jr H b v f){am:List AV}{fm:List Nat}(om:aM H am x.cd fm)(nm:fm.Nodup)(dm:∀c∈fm,c∉f∧c≠b):
 T pQ Γ Fn.kaJ [.gp b 0 0,.agg am] H fun r H'=>r=.int .i64 (k8 v)∧e9 H b (fun c=>c∈f∨c∈fm) H' (dv v x):=by
 obtain⟨wE,w2,wL,w4,fE,f2,fL,f4,rfl,o⟩:=a;have hb:=o.hb;have bf:=o.bf;have blt:=o.blt;have vlt:=o.lt;have cb:=VO.Cp hb;obtain⟨a1,a2,a3,a4⟩:=o.oE.cell;obtain⟨b1,b2,b3,b4⟩:=o.o2.cell;obtain⟨c1,c2,c3,c4⟩:=o.oL.cell;obtain⟨d1,d2,d3,d4⟩:=o.o4.cell;obtain⟨_,lE⟩:=dc o.oE;rw[Aad]at lE;have oo:=om;simp only[aA.cd,jv,jy,j6,oF,nF]at oo;obtain⟨_,_,_,_,rfl,_,⟨rfl,rfl⟩,⟨_,_,_,_,rfl,_,⟨rfl,rfl⟩,⟨az2,_,_,_,rfl,_,uz2,⟨_,_,_,_,rfl,_,⟨rfl,rfl⟩,⟨_,_,_,_,rfl,_,⟨rfl,rfl⟩,⟨_,_,_,_,rfl,_,⟨rfl,rfl⟩,⟨az6,_,_,_,rfl,_,uz6,⟨az7,_,_,_,rfl,_,uz7,⟨_,_,_,_,rfl,_,⟨rfl,rfl⟩,⟨_,_,_,_,rfl,_,⟨rfl,rfl⟩,⟨_,_,_,_,rfl,_,⟨rfl,rfl⟩,⟨_,_,_,_,rfl,_,⟨rfl,rfl⟩,⟨rfl,_⟩⟩⟩⟩⟩⟩⟩⟩⟩⟩⟩⟩⟩:=oo;obtain⟨cz2a,cz2b,cz2c,cz2d⟩:=uz2.cell;obtain⟨cz6a,cz6b,cz6c,cz6d⟩:=uz6.cell;obtain⟨cz7a,cz7b,cz7c,cz7d⟩:=uz7.cell;refine QP (aC aG mixed [] _ _ _ ?_);unfold Mk;simp only[au,Aaa,Aab,Bi,tY,oJ,cK,cb];by_cases hf:200≤v.entities.length
 ·simp only[au,Aaa,Aab,Bi,tY,oJ,cb,lE,show decide ((200:Int)≤(v.entities.length:Int))=true from aR (by omega),show decide ((v.entities.length:Int)≥200)=true from aR (by omega)];have e:dv v x=v:=by rw[dv,if_pos hf]
  have e2:k8 v = -1:=by rw[k8,if_pos hf]
  rw[e,e2];first|exact⟨rfl,rfl,e9.refl o.at fun c hc=>.inl hc⟩|exact⟨rfl,e9.refl o.at fun c hc=>.inl hc⟩|exact e9.refl o.at fun c hc=>.inl hc
 have nd2:(fE++fm).Nodup:=Aae.2 ⟨o.nE,nm,fun x hx y hy e=>(dm y hy).1 (aO.2 (.inl (e▸hx)))⟩;obtain⟨v',H1,fE',ea,o',nd',hf',hl',hm'⟩:=df (bytes:=144) o.oE nd2 (by omega) rfl om (by simp only[Aad,aU];omega);obtain⟨j1,j2,j3,j4⟩:=o'.cell;obtain⟨_,lE'⟩:=dc o';simp only[List.length_append,Aad,List.length_cons,List.length_nil,Nat.zero_add]at lE';have hb1:cF H1 b=some (0,[.int .i64 v.id,wE,w2,wL,w4]):=by rw[bc (hf' b o.bE blt)];exact hb
 obtain⟨H2,s2,hb2,l2,r2⟩:=xB hb1 (i:=1) (w:=v') (by simp) j3;have cb2:∀(e:List AV) (L:List (List AV)) (off n:Nat),(St.mk e L H2).cells (.gp b 0 off) n=sub [.int .i64 v.id,v',w2,wL,w4] off n:=fun e L off n=>b8 hb2;simp only[au,Aaa,Aab,Bi,tY,oJ,EA,cK,cb,lE,show decide ((200:Int)≤(v.entities.length:Int))=false from aW (by omega),show decide ((v.entities.length:Int)≥200)=false from aW (by omega),cz2a,cz2b,cz2c,cz6a,cz6b,cz6c,cz7a,cz7b,cz7c,ea,j1,j2,j3,s2,cb2,lE'];have e:dv v x={ v with entities:=v.entities++[x] }:=by rw[dv,if_neg hf]
 have e2:k8 v=IntKind.i64.wrap (((v.entities.length+1:Nat):Int)-1):=by rw[k8,if_neg hf,jO (by omega) (by omega)];omega
 rw[e,e2];have o2:=o.JZ (G:=fm) (es':=v.entities++[x]) (fE':=fE') hb2 ((by simpa using o':b9 H1 v' (.sl 12 ((v.entities++[x]).map aA.cd)) fE').frame fun c hc=>r2 c (fun e=>by
  subst e;rcases hm' c hc with g|g|g
  ·exact o.bE g
  ·exact(dm c g).2 rfl
  ·omega)) nd' hm' dm (by omega) (fun c h1 h2 h3 h4=>by rw[r2 c h3,hf' c h1 h4])
 have fin:e9 H b (fun c=>c∈dh fE f2 fL f4∨c∈fm) H2 { v with entities:=v.entities++[x] }:=o2.up (by omega) (fun c hc=>by
  rcases aO.1 hc with g|g|g|g
  ·rcases hm' c g with q|q|q
   ·exact .inl (.inl (aO.2 (.inl q)))
   ·exact .inl (.inr q)
   ·exact .inr q
  ·exact .inl (.inl (aO.2 (.inr (.inl g))))
  ·exact .inl (.inl (aO.2 (.inr (.inr (.inl g)))))
  ·exact .inl (.inl (aO.2 (.inr (.inr (.inr g)))))) (fun c h1 h2 h3=>by rw[r2 c h2,hf' c (fun h=>h1 (.inl (aO.2 (.inl h)))) h3])
 first|exact⟨rfl,rfl,fin⟩|exact⟨rfl,fin⟩|exact fin
set_option maxHeartbeats 1000000 in
theorem Bq(v:ar)(hL:v.aq.length≤1048576)(ho:v.out.length≤1048576)(to_:Int)(m:ah)(H:AH){b:Nat}{f:List Nat}(a:jr H b v f){am:List AV}{fm:List Nat}(om:aM H am m.cd fm)(nm:fm.Nodup)(dm:∀c∈fm,c∉f∧c≠b):
 T pQ Γ Fn.U5 [.gp b 0 0,.int .i64 to_,.agg am] H fun r H'=>r=.tup []∧e9 H b (fun c=>c∈f∨c∈fm) H' (e8 v to_ m):=by
 obtain⟨wE,w2,wL,w4,fE,f2,fL,f4,rfl,o⟩:=a;have hb:=o.hb;have bf:=o.bf;have blt:=o.blt;have vlt:=o.lt;have cb:=VO.Cp hb;obtain⟨a1,a2,a3,a4⟩:=o.oE.cell;obtain⟨b1,b2,b3,b4⟩:=o.o2.cell;obtain⟨c1,c2,c3,c4⟩:=o.oL.cell;obtain⟨d1,d2,d3,d4⟩:=o.o4.cell;obtain⟨_,lE⟩:=dc o.oE;rw[Aad]at lE;have oo:=om;simp only[ah.cd,jv,jy,j6,oF,nF]at oo;obtain⟨_,_,_,_,rfl,_,⟨rfl,rfl⟩,⟨_,_,_,_,rfl,_,⟨rfl,rfl⟩,⟨_,_,_,_,rfl,_,⟨rfl,rfl⟩,⟨_,_,_,_,rfl,_,⟨rfl,rfl⟩,⟨_,_,_,_,rfl,_,⟨rfl,rfl⟩,⟨az5,_,_,_,rfl,_,uz5,⟨_,_,_,_,rfl,_,⟨rfl,rfl⟩,⟨_,_,_,_,rfl,_,⟨rfl,rfl⟩,⟨_,_,_,_,rfl,_,⟨rfl,rfl⟩,⟨_,_,_,_,rfl,_,⟨rfl,rfl⟩,⟨_,_,_,_,rfl,_,⟨rfl,rfl⟩,⟨_,_,_,_,rfl,_,⟨rfl,rfl⟩,⟨rfl,_⟩⟩⟩⟩⟩⟩⟩⟩⟩⟩⟩⟩⟩:=oo;obtain⟨cz5a,cz5b,cz5c,cz5d⟩:=uz5.cell;refine kaX_e (aC aG mixed [] _ _ _ ?_);unfold SV;simp only[au,Aaa,Aab,IJ,Cf,tO,cK,cb];refine al.ref (by simp only[EO]) (A0 v hL to_ H hb o.own o.nodup) ?_;rintro rl H0 ⟨⟨N0,hN⟩,hlk⟩;replace hN:H0=H++N0:=hN;obtain⟨HH,hHH⟩:∃HH,HH=H++N0:=⟨_,rfl⟩
 have lHH:H.length≤HH.length:=by rw[hHH];simp
 have fHH:∀c,c<H.length→HH[c]? = H[c]?:=fun c hc=>by rw[hHH,Aac hc]
 have o0:VO HH b v wE w2 wL w4 fE f2 fL f4:=o.frame fun c hc=>fHH c (by rcases hc with g|g;exact vlt c g;rw[g];exact blt);have conv:∀H' v',e9 HH b (fun c=>c∈dh fE f2 fL f4∨c∈fm) H' v'→e9 H b (fun c=>c∈dh fE f2 fL f4∨c∈fm) H' v':=fun H' v' u=>e9.trans (f1:=dh fE f2 fL f4) lHH (fun c hc=>.inl (.inl hc)) (fun c _ _ hl=>fHH c hl) u (fun c hc=>hc.elim .inl fun h=>.inr (.inl (.inr h)))
 replace om:=om.frame (h':=HH) fun c hc=>fHH c (om.lt c hc);clear cb;rw[←hHH]at hN;subst hN;have hb0:=o0.hb;have cb:∀(e:List AV) (L:List (List AV)) (off n:Nat),(St.mk e L H0).cells (.gp b 0 off) n=sub [.int .i64 v.id,wE,w2,wL,w4] off n:=fun e L off n=>b8 hb0;replace blt:=o0.blt;replace vlt:=o0.lt;replace hb:=hb0;clear o;have o:=o0;cases hu:rO v.aq to_
 ·rcases hlk with⟨g,_⟩|⟨_,rfl⟩
  ·rw[hu]at g;cases g
  simp only[au,Aaa,Aab,IJ,Cf,tO,cK];have e:e8 v to_ m=v:=by rw[e8,hu];rfl
  rw[e];first|exact⟨rfl,rfl,conv _ _ (e9.refl o.at fun c hc=>.inl hc)⟩|exact⟨rfl,conv _ _ (e9.refl o.at fun c hc=>.inl hc)⟩|exact conv _ _ (e9.refl o.at fun c hc=>.inl hc)
 rcases hlk with⟨_,k,hk,_,ik⟩|⟨g,_⟩
 rotate_left
 ·rw[hu]at g;cases g
 obtain⟨bK,gK,nK,rowK,fK,iK,_⟩:=o.vq hk;rw[iK]at ik;injection ik with ik
 subst ik;have nd2:(f4++fm).Nodup:=Aae.2 ⟨o.n4,nm,fun x hx y hy e=>(dm y hy).1 (aO.2 (.inr (.inr (.inr (e▸hx)))))⟩;obtain⟨v',H1,f4',ea,o',nd',hf',hl',hm'⟩:=df (bytes:=128) o.o4 nd2 (by omega) rfl (aM.i (k:=.i64) (n:=to_) om) (by simp only[Aad,aU];omega);obtain⟨j1,j2,j3,j4⟩:=o'.cell;have hb1:cF H1 b=some (0,[.int .i64 v.id,wE,w2,wL,w4]):=by rw[bc (hf' b o.b4 blt)];exact hb
 obtain⟨H2,s2,hb2,l2,r2⟩:=xB hb1 (i:=4) (w:=v') (by simp) j3;simp only[au,Aaa,Aab,IJ,Cf,tO,EA,cK,ji,sO,sI,sK,cb,cz5a,cz5b,cz5c,ea,j1,j2,j3,s2];have e:e8 v to_ m={ v with out:=v.out++[⟨to_,m⟩] }:=by rw[e8,hu];rfl
 rw[e];have o2:=o.upd4 (G:=fm) (l':=v.out++[⟨to_,m⟩]) (f4':=f4') hb2 ((by rw[Aaq];exact o':b9 H1 v' (.sl 13 ((v.out++[(⟨to_,m⟩:aY)]).map aY.cd)) f4').frame fun c hc=>r2 c (fun e=>by
  subst e;rcases hm' c hc with g|g|g
  ·exact o.b4 g
  ·exact(dm c g).2 rfl
  ·omega)) nd' hm' dm (by omega) (fun c h1 h2 h3 h4=>by rw[r2 c h3,hf' c h1 h4])
 have fin:e9 H0 b (fun c=>c∈dh fE f2 fL f4∨c∈fm) H2 { v with out:=v.out++[⟨to_,m⟩] }:=o2.up (by omega) (fun c hc=>by
  rcases aO.1 hc with g|g|g|g
  ·exact .inl (.inl (aO.2 (.inl g)))
  ·exact .inl (.inl (aO.2 (.inr (.inl g))))
  ·exact .inl (.inl (aO.2 (.inr (.inr (.inl g)))))
  ·rcases hm' c g with q|q|q
   ·exact .inl (.inl (aO.2 (.inr (.inr (.inr q)))))
   ·exact .inl (.inr q)
   ·exact .inr q) (fun c h1 h2 h3=>by rw[r2 c h2,hf' c (fun h=>h1 (.inl (aO.2 (.inr (.inr (.inr h)))))) h3])
 replace fin:=conv _ _ fin
 first|exact⟨rfl,rfl,fin⟩|exact⟨rfl,fin⟩|exact fin
theorem RA{v:ar}{H:AH}{b:Nat}{wE w2 wL w4:AV}{fE f2 fL f4:List Nat}(o:VO H b v wE w2 wL w4 fE f2 fL f4){k:Nat}(hk:k<v.aq.length)(hl:v.aq[k].exports.length≤1048576){r:AV}(ir:fh 7 wL (k:Int)=some r)(n:Int):
 T pQ Γ Fn.kax [r,.int .i64 n] H fun w H'=>w=.int .i64 (jq v.aq[k] n).2∧Co H b wE w2 wL w4 fE f2 fL f4 H' { v with aq:=v.aq.set k (jq v.aq[k] n).1 }:=by
 have vlt:=o.lt;have bf:=o.bf;have blt:=o.blt;have hb:=o.hb;have hkm:k<(v.aq.map aF.cd).length:=by simpa using hk
 obtain⟨bL,gL,pre,rowL,post,fL0,iL,mL,lL,oLr,nLr,sLr,bmL,bnL,close⟩:=o.oL.sw o.nL hkm;rw[Aal]at oLr;rw[ir]at iL;injection iL with iL
 subst iL;have hfL:∀c∈fL,c<H.length:=fun c hc=>vlt c (aO.2 (.inr (.inr (.inl hc))));refine(ZZ v.aq[k] hl n H mL oLr nLr bnL).mono ?_;rintro w H5 ⟨rfl,l5,row',f',m5,o5,n',b',r5⟩;obtain⟨fL',oL5,nL5,mL5⟩:=close H5 _ _ f' o5 n' rfl (fun c hc=>(b' c hc).imp id fun g hm=>by have:=hfL c hm;omega) m5 (fun c hc hcf hcb=>r5 c hcf hcb (hfL c hc));have fr:∀c,c∉fL→c<H.length→H5[c]? = H[c]?:=fun c h1 h2=>r5 c (fun h=>h1 (sLr c h)) (fun e=>h1 (e▸bmL)) h2;have hb5:cF H5 b=some (0,[.int .i64 v.id,wE,w2,wL,w4]):=by
  rw[bc (fr b (fun h=>bf (aO.2 (.inr (.inr (.inl h))))) blt)];exact hb
 rw[←Aau]at oL5;have mf:∀c∈fL',c∈fL∨H.length≤c:=fun c hc=>by
  rcases mL5 c hc with g|g
  ·exact .inl g
  ·exact(b' c g).imp (sLr c) id
 exact⟨rfl,fL',o.Jw (G:=[]) hb5 oL5 nL5 (fun c hc=>(mf c hc).imp id .inr) (fun c hc=>by simp at hc) l5 (fun c h1 h2 h3 h4=>fr c h1 h4),l5,mf,fr⟩
theorem Zu{v:ar}{H:AH}{b:Nat}{wE w2 wL w4:AV}{fE f2 fL f4:List Nat}(o:VO H b v wE w2 wL w4 fE f2 fL f4){k:Nat}(hk:k<v.aq.length)(hl:v.aq[k].questions.length≤1048576){r:AV}(ir:fh 7 wL (k:Int)=some r)(n:Int):
 T pQ Γ Fn.kar [r,.int .i64 n] H fun w H'=>w=.int .i64 (lO v.aq[k] n).2∧Co H b wE w2 wL w4 fE f2 fL f4 H' { v with aq:=v.aq.set k (lO v.aq[k] n).1 }:=by
 have vlt:=o.lt;have bf:=o.bf;have blt:=o.blt;have hb:=o.hb;have hkm:k<(v.aq.map aF.cd).length:=by simpa using hk
 obtain⟨bL,gL,pre,rowL,post,fL0,iL,mL,lL,oLr,nLr,sLr,bmL,bnL,close⟩:=o.oL.sw o.nL hkm;rw[Aal]at oLr;rw[ir]at iL;injection iL with iL
 subst iL;have hfL:∀c∈fL,c<H.length:=fun c hc=>vlt c (aO.2 (.inr (.inr (.inl hc))));refine(XT v.aq[k] hl n H mL oLr nLr bnL).mono ?_;rintro w H5 ⟨rfl,l5,row',f',m5,o5,n',b',r5⟩;obtain⟨fL',oL5,nL5,mL5⟩:=close H5 _ _ f' o5 n' rfl (fun c hc=>(b' c hc).imp id fun g hm=>by have:=hfL c hm;omega) m5 (fun c hc hcf hcb=>r5 c hcf hcb (hfL c hc));have fr:∀c,c∉fL→c<H.length→H5[c]? = H[c]?:=fun c h1 h2=>r5 c (fun h=>h1 (sLr c h)) (fun e=>h1 (e▸bmL)) h2;have hb5:cF H5 b=some (0,[.int .i64 v.id,wE,w2,wL,w4]):=by
  rw[bc (fr b (fun h=>bf (aO.2 (.inr (.inr (.inl h))))) blt)];exact hb
 rw[←Aau]at oL5;have mf:∀c∈fL',c∈fL∨H.length≤c:=fun c hc=>by
  rcases mL5 c hc with g|g
  ·exact .inl g
  ·exact(b' c g).imp (sLr c) id
 exact⟨rfl,fL',o.Jw (G:=[]) hb5 oL5 nL5 (fun c hc=>(mf c hc).imp id .inr) (fun c hc=>by simp at hc) l5 (fun c h1 h2 h3 h4=>fr c h1 h4),l5,mf,fr⟩
theorem Co.back{H H0 H':AH}{b:Nat}{v':ar}{wE w2 wL w4:AV}{fE f2 fL f4:List Nat}(hl:H.length≤H0.length)(hf:∀c,c<H.length→H0[c]? = H[c]?)(u:Co H0 b wE w2 wL w4 fE f2 fL f4 H' v'):Co H b wE w2 wL w4 fE f2 fL f4 H' v':=by
 obtain⟨fL',o,l,m,r⟩:=u;exact⟨fL',o,by omega,fun c hc=>(m c hc).imp id fun h=>by omega,fun c h1 h2=>by rw[r c h1 (by omega),hf c h2]⟩
set_option maxHeartbeats 4000000 in
set_option maxRecDepth 100000 in
theorem Qg(v:ar)(hE:v.entities.length≤1048576)(hL:v.aq.length≤1048576)(hlk:∀l∈v.aq,l.ok 1048576)(peer:Int)(x:an)(H:AH){b:Nat}{wE w2 wL w4:AV}{fE f2 fL f4:List Nat}(o:VO H b v wE w2 wL w4 fE f2 fL f4):
 T pQ Γ Fn.ka5 [.gp b 0 0,.int .i64 peer,.agg (x.c false)] H fun r H'=>r=.agg ((bq v peer x).2.c false)∧Co H b wE w2 wL w4 fE f2 fL f4 H' (bq v peer x).1:=by
 have hb:=o.hb;have vlt:=o.lt;have blt:=o.blt;obtain⟨y,hy⟩:∃y,y=cO v x:=⟨_,rfl⟩
 have tw:bq v peer x=bq v peer x:=rfl;conv at tw=>rhs;unfold bq
 simp only[←hy]at tw;refine Y1 (aC aG mixed [] _ _ _ ?_);unfold Oj;simp only[au,Aaa,Aab,rZ,bC,an.c];refine al.fk (by simp only[EO]) (aI (tr o) (aI (.same _) aZ)) (fun h=>F4 true v hE x h (Ptr.ip h true _)) (.agg _ (by intro z hz;simp only[an.c,Aan,Aak,or_false]at hz;rcases hz with rfl|rfl<;>exact .int _ _)) ?_;rw[←hy];simp only[au,Aaa,Aab,rZ,bC,an.c];refine al.ref (by simp only[EO]) (A0 v hL peer H hb o.own o.nodup) ?_;rintro rl H0 ⟨⟨N0,hN⟩,hlk2⟩;replace hN:H0=H++N0:=hN;have lHH:H.length≤H0.length:=by rw[hN];simp
 have fHH:∀c,c<H.length→H0[c]? = H[c]?:=fun c hc=>by rw[hN,Aac hc]
 have o0:VO H0 b v wE w2 wL w4 fE f2 fL f4:=o.frame fun c hc=>fHH c (by rcases hc with g|g;exact vlt c g;rw[g];exact blt);have back:=fun H' v' (u:Co H0 b wE w2 wL w4 fE f2 fL f4 H' v')=>Co.back lHH fHH u;have triv:=back H0 v (Co.refl o0);have triv3:∀(w:aJ),(bq v peer x)=(v,w)→AV.agg [.int .i64 w.kind,.int .i64 w.n]=.agg ((bq v peer x).2.c false)∧Co H b wE w2 wL w4 fE f2 fL f4 H0 (bq v peer x).1:=fun w e=>by rw[e];exact⟨rfl,triv⟩
 cases t1:(decide (y.kind=0) && tZ y.n 0 999999)
 rotate_left
 ·rw[t1,if_pos rfl]at tw;have fin:=triv3 _ tw;simp only[au,Aaa,Aab,rZ,bN,an.c,aJ.c,ag,ae];refine al.val (by simp only[EO]) (NK false y _) ?_;rw[t1];simp only[au,Aaa,Aab,rZ,bN,an.c,aJ.c,ag,ae];first|exact⟨rfl,fin⟩|exact⟨rfl,fin.1,fin.2⟩|trace_state
 rw[t1]at tw;simp only[Aaf,if_false]at tw;simp only[au,Aaa,Aab,rZ,bN,an.c,aJ.c,ag,ae];refine al.val (by simp only[EO]) (NK false y _) ?_;rw[t1];by_cases k1:y.kind=1;rotate_left
 ·rw[aW k1]at tw;simp only[Aar,Aaf,if_false]at tw;have fin:=triv3 _ tw;simp only[au,Aaa,Aab,rZ,bN,an.c,aJ.c,ag,ae,aW k1];first|exact⟨rfl,fin⟩|exact⟨rfl,fin.1,fin.2⟩|trace_state
 rw[aR k1]at tw;rcases hlk2 with⟨hup,j,hj,ej,ik⟩|⟨hup,rfl⟩
 rotate_left
 ·rw[hup]at tw;simp only[Aas,Aaf,if_false]at tw;have fin:=triv3 _ tw;simp only[au,Aaa,Aab,rZ,bN,an.c,aJ.c,ag,ae,aR k1];first|exact⟨rfl,fin⟩|exact⟨rfl,fin.1,fin.2⟩|trace_state
 obtain⟨bK,gK,nK,rowK,fK,iK,_⟩:=o0.vq hj;have ik0:=ik;rw[iK]at ik;injection ik with ik;subst ik
 rw[hup]at tw;simp only[au,Aaa,Aab,rZ,bN,an.c,aJ.c,ag,ae,aR k1];refine al.ref (by simp only[EO]) (CN hE y.n o0) ?_;rintro r h' ⟨⟨e1,i1⟩|⟨e1,rfl⟩,e⟩;rotate_left
 ·replace e:h'=H0:=e;subst e;rw[e1]at tw;simp only[Aar,Aas,Aaf,if_false]at tw;have fin:=triv3 _ tw;simp only[au,Aaa,Aab,rZ,bN,an.c,aJ.c,ag,ae];first|exact⟨rfl,fin⟩|exact⟨rfl,fin.1,fin.2⟩|trace_state
 replace e:h'=H0:=e;subst e;rw[e1]at tw;simp only[Aat,Bool.true_and,if_true]at tw;obtain⟨k,hk,ek,_,eA⟩:=cL e1;obtain⟨bR,gR,nR,row,fR,iR,rR,lR,oR,nfR,_,_,_,wrR⟩:=o0.jY hk;rw[←ek,i1]at iR;injection iR with iR
 subst iR;rw[←eA]at oR;obtain⟨ee,hee⟩:∃ee,ee=aD v y.n:=⟨_,rfl⟩
 rw[←hee]at oR;have hge:v.entities.getD y.n.toNat default=ee:=by rw[hee];rfl
 rw[hge]at tw;obtain⟨rd,_⟩:=wrR h' 0 [] ee fR [] (Aap _) (fun c hc=>by cases hc) (fun _ _ _ _=>rfl) (by simp) rfl (by
  have:c8 row 0 []=row:=by simp[c8]
  rw[this];exact oR) nfR (fun c hc=>.inl hc)
 obtain⟨wS,wQ,wA,fS,fQ,fA,rfl,_,oS,oQ,oA⟩:=c5 oR;have rd0:∀(e:List AV) (L:List (List AV)),(St.mk e L h').cells (.gp bR gR (nR+0)) 1=some [.int .i64 ee.kind]:=fun e L=>(rd e L 0 1).resolve_right (by omega);have rd0':∀(e:List AV) (L:List (List AV)),(St.mk e L h').cells (.gp bR gR nR) 1=some [.int .i64 ee.kind]:=rd0;have rd8:∀(e:List AV) (L:List (List AV)),(St.mk e L h').cells (.gp bR gR (nR+8)) 1=some [.int .i64 ee.peer]:=fun e L=>(rd e L 8 1).resolve_right (by omega);have rd9:∀(e:List AV) (L:List (List AV)),(St.mk e L h').cells (.gp bR gR (nR+9)) 1=some [.int .i64 ee.pos]:=fun e L=>(rd e L 9 1).resolve_right (by omega);by_cases q:ee.kind=3∧ee.peer=peer
 ·rw[aR q.1,aR q.2]at tw;simp only[Aat,if_true]at tw;have fin:=triv3 _ tw;simp only[au,Aaa,Aab,rZ,bN,an.c,aJ.c,ag,ae,rd0,rd0',rd8,rd9,aR q.1,aR q.2];first|exact⟨rfl,fin⟩|exact⟨rfl,fin.1,fin.2⟩|trace_state
 have q':(decide (ee.kind=3) && decide (ee.peer=peer))=false:=by
  by_cases q1:ee.kind=3
  ·rw[aW (fun h=>q ⟨q1,h⟩)];simp
  ·rw[aW q1];simp
 rw[q']at tw;simp only[Aaf,if_false]at tw;have hgl:v.aq.getD j default=v.aq[j]:=by rw[List.getD_eq_getElem?_getD,List.getElem?_eq_getElem hj];rfl
 rw[ej,Int.toNat_natCast,hgl]at tw;by_cases q1:ee.kind=3
 ·have q2:¬ee.peer=peer:=fun h=>q ⟨q1,h⟩;simp only[au,Aaa,Aab,rZ,bN,an.c,aJ.c,ag,ae,rd0,rd0',rd8,rd9,aR q1,aW q2];refine al.ref (by simp only[EO]) (RA o0 hj (hlk _ (Aaj hj)).1 ik0 y.n) ?_;rintro _ H5 ⟨rfl,u⟩;have fin:=back _ _ u;rw[tw];simp only[au,Aaa,Aab,rZ,bN,an.c,aJ.c,ag,ae];first|exact⟨rfl,rfl,fin⟩|exact⟨rfl,fin⟩|exact⟨by simp only[EO],rfl,fin⟩|trace_state
 ·simp only[au,Aaa,Aab,rZ,bN,an.c,aJ.c,ag,ae,rd0,rd0',rd8,rd9,aW q1];refine al.ref (by simp only[EO]) (RA o0 hj (hlk _ (Aaj hj)).1 ik0 y.n) ?_;rintro _ H5 ⟨rfl,u⟩;have fin:=back _ _ u;rw[tw];simp only[au,Aaa,Aab,rZ,bN,an.c,aJ.c,ag,ae];first|exact⟨rfl,rfl,fin⟩|exact⟨rfl,fin⟩|exact⟨by simp only[EO],rfl,fin⟩|trace_state
set_option maxRecDepth 100000 in
set_option maxHeartbeats 4000000 in
theorem YJ(v:ar)(hE:v.entities.length≤1048576)(hL:v.aq.length≤1048576){N:Nat}(hlk:IM N v)(peer:Int)(l:List an)(hN:N+l.length≤1048576)(H:AH){b:Nat}{wE w2 wL w4:AV}{fE f2 fL f4:List Nat}(o:VO H b v wE w2 wL w4 fE f2 fL f4){wa:AV}{fa:List Nat}(oa:b9 H wa (.sl 2 (l.map an.cd)) fa)(na:fa.Nodup)(da:∀c∈fa,c∉fL):
 T pQ Γ Fn.ka6 [.gp b 0 0,.int .i64 peer,wa] H fun r H'=>∃fL' fw,VO H' b (aQ v peer l).1 wE w2 wL w4 fE f2 fL' f4∧b9 H' r (.sl 2 ((aQ v peer l).2.map aJ.cd)) fw∧fw.Nodup∧H.length≤H'.length∧(∀c∈fL',c∈fL∨H.length≤c)∧(∀c∈fw,H.length≤c∧c∉fL')∧(∀c,c∉fL→c<H.length→H'[c]? = H[c]?):=by
 have LA:=(dc oa).2;rw[Aad]at LA;have q1:=o.lt;have q2:=o.blt;refine YE (aC aG mixed [] _ _ _ ?_);unfold Oz;obtain⟨ga1,ga2,ga3,ga4⟩:=oa.cell;simp only[au,Aaa,Aab,De,EA,LA,ga1,ga2,ga3];refine fD aG mixed [] (fun x:Nat×AV×AH×List Nat×List Nat×List (List AV)=>x.1≤l.length∧VO x.2.2.1 b (aQ v peer (l.take x.1)).1 wE w2 wL w4 fE f2 x.2.2.2.1 f4∧b9 x.2.2.1 x.2.1 (.sl 2 ((aQ v peer (l.take x.1)).2.map aJ.cd)) x.2.2.2.2.1∧x.2.2.2.2.1.Nodup∧H.length≤x.2.2.1.length∧(∀c∈x.2.2.2.1,c∈fL∨H.length≤c)∧(∀c∈x.2.2.2.2.1,H.length≤c∧c∉x.2.2.2.1)∧(∀c,c∉fL→c<H.length→x.2.2.1[c]? = H[c]?)) (fun x=>l.length-x.1)
  (fun x=>D3 (.gp b 0 0) (.int .i64 peer) x.2.1 wa (.int .i64 l.length) (.int .i64 x.1) x.2.2.2.2.2 x.2.2.1) (0,.gs H.length 0 0 0 0 2 true,H++[some (0,[])],fL,[H.length],[])
  ⟨by simp,o.frame fun c hc=>Aac (by rcases hc with g|g;exact q1 c g;rw[g];exact q2),gn H 2,by simp,by simp,fun c hc=>.inl hc,fun c hc=>by rw[List.mem_singleton.1 hc];exact⟨Aap _,fun g=>by have:=q1 _ (aO.2 (.inr (.inr (.inl g))));omega⟩,fun c _ h=>Aac h⟩ ⟨by simp[D3,gW,gM],rfl,rfl⟩ ?_
 rintro⟨k,w,H1,f1,fw,M⟩ ⟨hk,ha,ho,nd,hl1,m1,mw,r1⟩;simp only at hk ha ho nd hl1 m1 mw r1;simp only[au,Aaa,Aab,De,D3,LA];refine bz (fun hlt=>?_) (fun hge=>?_);rotate_left
 ·have hge:k=l.length:=by simp at hge;omega
  subst hge;rw[List.take_length]at ha ho;obtain⟨ca,cb,cc,cd⟩:=ho.cell;simp only[au,Aaa,Aab,De,ca,cb,cc];exact⟨ho.cY,f1,fw,ha,ho,nd,hl1,m1,mw,r1⟩
 have hlt:k<l.length:=by simpa using hlt
 have oa1:b9 H1 wa (.sl 2 (l.map an.cd)) fa:=oa.frame fun c hc=>r1 c (da c hc) (oa.lt c hc);obtain⟨bR,gR,row,fR,iR,_,_,rR,_,oR,_,_,lR⟩:=oa1.row na (k:=k) (by simpa using hlt);rw[Aal]at oR;obtain⟨x,hx⟩:∃x,x=l[k]:=⟨_,rfl⟩
 rw[←hx]at oR;simp only[an.cd,jv,jy,j6]at oR;obtain⟨_,_,_,_,rfl,rfl,⟨rfl,rfl⟩,⟨_,_,_,_,rfl,rfl,⟨rfl,rfl⟩,⟨rfl,rfl⟩⟩⟩:=oR;have te:=nM peer (l.take k) v;have hk2:(l.take k).length=k:=by rw[List.length_take];exact Nat.min_eq_left hk
 have to:IM 1048576 (aQ v peer (l.take k)).1:=(u9 peer (l.take k) hlk).mono (by rw[hk2];omega);have ts:aQ v peer (l.take (k+1))=((bq (aQ v peer (l.take k)).1 peer x).1,(aQ v peer (l.take k)).2++[(bq (aQ v peer (l.take k)).1 peer x).2]):=by
  rw[List.take_succ_eq_append_getElem hlt,←hx,s8]
 have tl:=qF peer (l.take k) v;obtain⟨vk,hvk⟩:∃vk,vk=(aQ v peer (l.take k)).1:=⟨_,rfl⟩
 obtain⟨wk,hwk⟩:∃wk,wk=(aQ v peer (l.take k)).2:=⟨_,rfl⟩
 rw[←hvk]at ha te to ts;rw[←hwk]at ho ts tl;obtain⟨ca,cb,cc,cd⟩:=ho.cell;simp only[au,Aaa,Aab,De,iR,rR,ca,cb,cc];refine al.ref (by simp only[EO]) (Qg vk (by rw[te.1];exact hE) (by rw[te.2];exact hL) to peer x H1 ha) ?_;rintro r H2 ⟨rfl,f2',a2,l2,m2,r2⟩;replace a2:VO H2 b _ wE w2 wL w4 fE f2 f2' f4:=a2;replace l2:H1.length≤H2.length:=l2;replace r2:∀c,c∉f1→c<H1.length→H2[c]? = H1[c]?:=r2;obtain⟨y,hy⟩:∃y,y=(bq vk peer x).2:=⟨_,rfl⟩
 rw[←hy]at ts ⊢;have o2:b9 H2 w (.sl 2 (wk.map aJ.cd)) fw:=ho.frame fun c hc=>r2 c (mw c hc).2 (ho.lt c hc);obtain⟨v',H',fp',ea,o',nd',hf',hl',hm'⟩:=df (bytes:=16) o2 (ys:=[.int .i64 y.kind,.int .i64 y.n]) (row:=[.i .i64 y.kind,.i .i64 y.n]) (f2:=[]) (by simpa using nd) (by omega) rfl (.i (.i .nil)) (by simp only[Aad,aU];omega);simp only[au,Aaa,Aab,De,EA,aJ.c,ca,cb,cc,ea];have old:∀c∈fw,c∉dh fE f2 f2' f4∧c≠b:=fun c hw=>by
  refine⟨fun h=>?_,fun e=>by have:=(mw c hw).1;omega⟩;rcases aO.1 h with g|g|g|g
  ·have:=q1 c (aO.2 (.inl g));have:=(mw c hw).1;omega
  ·have:=q1 c (aO.2 (.inr (.inl g)));have:=(mw c hw).1;omega
  ·rcases m2 c g with q|q
   ·exact(mw c hw).2 q
   ·have:=ho.lt c hw;omega
  ·have:=q1 c (aO.2 (.inr (.inr (.inr g))));have:=(mw c hw).1;omega
 have lt2:=a2.lt;have bt2:=a2.blt;refine⟨(k+1,v',H',f2',fp',_),⟨hlt,by
  simp only;rw[ts];exact a2.frame fun c hc=>hf' c (fun hw=>by rcases hc with g|g;exact(old c hw).1 g;exact(old c hw).2 g) (by rcases hc with g|g;exact lt2 c g;rw[g];exact bt2),by simp only;rw[ts,Aaq];exact o',nd',by simp only;omega,fun c hc=>?_,fun c hc=>?_,fun c h1 h3=>?_⟩,by simp only;omega,⟨by rw[wN (by omega)];simp[D3,gW,gM],rfl,rfl⟩⟩
 ·rcases m2 c hc with g|g
  ·exact m1 c g
  ·exact .inr (by omega)
 ·rcases hm' c hc with g|g|g
  ·exact⟨(mw c g).1,fun h=>(old c g).1 (aO.2 (.inr (.inr (.inl h))))⟩
  ·simp at g
  ·exact⟨by omega,fun h=>by have:=lt2 c (aO.2 (.inr (.inr (.inl h))));omega⟩
 ·simp only;rw[hf' c (fun g=>by have:=(mw c g).1;omega) (by omega),r2 c (fun g=>by rcases m1 c g with q|q;exact h1 q;omega) (by omega),r1 c h1 h3]
def CH(Γ:bG)(n:Nat):Prop:=∀(v:ar) (s:aK) (q:List aK) (H:AH) (b:Nat) (f:List Nat) (am:List AV) (fs:List Nat),mJ v<n→VI v→KI v→RQ (s::q) v→s.ok 100→wV v+2+s.args.length≤500000→jr H b v f→aM H am s.cd fs→fs.Nodup→(∀c∈fs,c∉f∧c≠b)→
 T pQ Γ Fn.kaN [.gp b 0 0,.agg am] H fun r H'=>r=.tup []∧e9 H b (fun c=>c∈f∨c∈fs) H' (aT n v s)
def RZ(Γ:bG)(n:Nat):Prop:=∀(v:ar) (s:aK) (q:List aK) (H:AH) (b:Nat) (f:List Nat) (am:List AV) (fs:List Nat),mJ v≤n→VI v→KI v→RQ q v→wV v≤500000→jr H b v f→aM H am s.cd fs→
 T pQ Γ Fn.kaP [.gp b 0 0,.agg am] H fun r H'=>r=.tup []∧e9 H b (fun c=>c∈f) H' (dD (aT n) v s.result bd)
def sB(n:Nat)(v:ar)(s:aK)(peer pos:Int):Option Int→ar
 | none=>if dT v s peer=true then dp (aT n) v s peer pos 0 else dD (aT n) v s.result bd
 | some t=>if dT v s peer=true then cT (dp (aT n) v s peer pos (aD v t).pos) t.toNat (cP (aD (dp (aT n) v s peer pos (aD v t).pos) t))else dD (aT n) v s.result bd
theorem JL{n:Nat}{v:ar}{s:aK}{peer pos:Int}(h:dT v s peer=false)(t:Option Int):sB n v s peer pos t=dD (aT n) v s.result bd:=by cases t<;>simp[sB,h]
theorem vQ:∀(q:List aK) (i:Nat) (h:i<q.length),sM (q.take i)+(2+q[i].args.length)≤sM q
 | [],i,h=>by simp at h
 | a::q,0,h=>by simp[sM]
 | a::q,i+1,h=>by
  have:=vQ q i (by simpa using h);simp only[sM,List.take_succ_cons,List.map_cons,List.sum_cons,List.getElem_cons_succ]at *;omega
theorem En{n:Nat}{l q:List aK}{w:ar}(r:RQ (l++q) w){i:Nat}(hi:i<l.length):RQ (l[i]::(l.drop (i+1)++q)) ((l.take i).foldl (aT n) w):=by
 have e:l.take i++(l[i]::(l.drop (i+1)++q))=l++q:=by
  rw[←List.cons_append,←List.drop_eq_getElem_cons hi,←List.append_assoc,List.take_append_drop]
 exact(mq n).fold (l.take i) (by rw[e];exact r)
theorem Gh{α β:Type}{f:α→β}{q:β→Bool}:∀{l l':List α},l'.map f=l.map f→iq (fun a=>q (f a)) l'=iq (fun a=>q (f a)) l:=by
 intro l l' h;have e:∀l:List α,l.findIdx? (fun a=>q (f a))=(l.map f).findIdx? q:=fun l=>by rw[List.findIdx?_map];rfl
 unfold iq;rw[e,e,h]
theorem KI.fold{n:Nat}{l:List aK}{v:ar}(h:KI v):KI (l.foldl (aT n) v):=by
 unfold KI at h ⊢;rw[rB (mD n)];exact h
theorem B6(es:List aA):∀(n:Nat) (x:an),qD es (qy es n x)=none
 | 0,_=>zd (by simp[qy,bd])
 | n+1,x=>by
  unfold qy;cases h:qD es x with
  | some y=>exact B6 es n y
  | none=>exact h
theorem M4{v:ar}{x:an}(h1:(cO v x).kind=1)(h2:bB (cO v x).n v.entities.length=true):¬((aD v (cO v x).n).kind=2∧(aD v (cO v x).n).state=2):=by
 obtain⟨k,hk,e1,_,e3⟩:=cL h2;intro h;have:=B6 v.entities (v.entities.length+1) x;rw[show qy v.entities (v.entities.length+1) x=cO v x from rfl,E1 h1 hk e1,←e3,if_pos h]at this;cases this
theorem Jj(v:ar)(x:an):cO v (cO v x)=cO v x:=zM (B6 v.entities (v.entities.length+1) x)
theorem Fg(v:ar)(p:Int)(x:an):bq v p (cO v x)=bq v p x:=by unfold bq;rw[Jj]
theorem Db(v:ar)(p:Int):lM v ⟨1,p⟩=pd v p:=by simp[zC,pd]
end Go.Proofs.YtolciaflplefcaaGreat
