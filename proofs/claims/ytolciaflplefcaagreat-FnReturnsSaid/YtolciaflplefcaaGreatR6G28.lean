import Derived.Test.YtolciaflplefcaaGreatR6G27
import Derived.Test.YtolciaflplefcaaGreatR6G18
set_option linter.unusedVariables false
set_option linter.unusedSimpArgs false
open Go.Proofs.Tryz renaming prog→pQ
open Nat renaming reduceAdd→Aaa,reduceBEq→Aab,lt_irrefl→Aai,le_refl→Aas
open List renaming getD_eq_getElem?_getD→Aac,mem_append→Aae,mem_singleton→Aaf,length_append→Aag,nodup_append→Aah,all_cons→Aaj,all_nil→Aak,getElem?_eq_getElem→Aam,length_map→Aao,mem_filter→Aap,length_nil→Aaq,all→Aar
open Bool renaming and_eq_true→Aad
open Int renaming toNat_natCast→Aal,le_refl→Aan
namespace Go.Proofs.YtolciaflplefcaaGreat
open Go.AM
variable {Γ:bG}
theorem zrq{P:Program}{f:FuncId}{args:List AV}{s:St}{Q:AV→AH→Prop}{K:AV→St→Prop}(t:T P Γ f args s.heap Q)(hq:∀v h',Q v h'→K v {s with heap:=h'})(ho:args.all gq=true:=by simp only[EO]):al P Γ f args s K:=al.ref ho t hq
theorem MZ{H H2:AH}{b g:Nat}{pre row post:List AV}(m:pj H b g pre row post)(h:H2[b]? = H[b]?):pj H2 b g pre row post:=⟨by rw[bc h];exact m.eq⟩
set_option maxHeartbeats 4000000 in
set_option maxRecDepth 100000 in
theorem OH{K:Nat}(v:ar)(g:GI K v)(hK:K+1≤1000)(peer:Int)(β:Bool)(m:ah)(hm:m.args.length≤4)(hn:m.name.size≤100)(H:AH){b:Nat}{f:List Nat}(a:jr H b v f):
 T pQ Γ Fn.ka0 [.gp b 0 0,.int .i64 peer,.agg (m.c β)] H fun r H'=>r=.tup []∧e9 H b (fun c=>c∈f) H' (uF v peer m):=by
 obtain⟨R,hR⟩:∃R,R=uF v peer m:=⟨_,rfl⟩
 rw[←hR];unfold uF at hR;have hvi:=g.vi;have gw:=g.w;obtain⟨wE,w2,wL,w4,fE,f2,fL,f4,rfl,o⟩:=a;have hL:v.aq.length≤1048576:=by have:=hvi.aq;omega
 have stop:R=v→e9 H b (fun c=>c∈dh fE f2 fL f4) H R:=fun e=>by rw[e];exact e9.refl o.at fun c hc=>hc
 refine X1 (aC aG mixed [] _ _ _ ?_);unfold Rz;simp only[au,Aaa,Aab,ss,kF,kG,iY,iZ,bC,ah.c,ag,ae];refine zrq (Gf hL peer o) ?_;rintro r h' ⟨hlk,e⟩;replace e:h'=H:=e;subst e;cases hu:rO v.aq peer
 ·rcases hlk with⟨g,_⟩|⟨_,rfl⟩
  ·rw[hu]at g;cases g
  simp only[au,Aaa,Aab,ss,kF,kG,iY,iZ,bC,ah.c,ag,ae];have sp:=stop (by rw[hR,if_neg (fun h=>by rw[hu]at h;cases h.2)]);first|exact⟨rfl,sp⟩|exact⟨rfl,rfl,sp⟩|exact sp
 rcases hlk with⟨_,k,hk,ek,ik⟩|⟨g,_⟩
 rotate_left
 ·rw[hu]at g;cases g
 obtain⟨bL,gL,pre,row,post,f0,iL,mL,lR,oR,nf0,sf0,bmL,bnL,wrL⟩:=o.rU hk;rw[iL]at ik;injection ik with ik
 subst ik;have hlok:=hvi.Cu.mono (show wV v+100≤1048576 by omega) _ (List.getElem_mem hk);have oR0:=oR;obtain⟨wX,wQ,wA,fX,fQ,fA,rfl,rfl,oX,oQ,oA⟩:=ck oR;obtain⟨z1,z2,z3,z4⟩:=oA.cell;have r6:∀(e:List AV) (L:List (List AV)),(St.mk e L h').cells (.gp bL gL (pre.length+6)) 1=some [wA]:=fun e L=>mL.cells e L 6 1 (by simp);rw[ib hk ek,sg,ek,Aal]at hR;simp only[au,Aaa,Aab,ss,kF,kG,iY,iZ,bC,ah.c,ag,ae];refine al.val (by simp only[EO]) (Ik β m (by omega) (by omega) _) ?_;cases im:pX m
 ·simp only[au,Aaa,Aab,ss,kF,kG,iY,iZ,bC,ah.c,ag,ae];have sp:=stop (by rw[hR,if_neg (fun h=>by rw[im]at h;cases h.1)]);first|exact⟨rfl,sp⟩|exact⟨rfl,rfl,sp⟩|exact sp
 rw[if_pos ⟨im,hu⟩]at hR;have LK:∀(l':aF) (H3:AH) (fL3:List Nat),R=dU v k l'→VO H3 b (dU v k l') wE w2 wL w4 fE f2 fL3 f4→h'.length≤H3.length→(∀c∈fL3,c∈fL∨h'.length≤c)→(∀c,c∉fL→c<h'.length→H3[c]? = h'[c]?)→e9 h' b (fun c=>c∈dh fE f2 fL f4) H3 R:=fun l' H3 fL3 e o3 l3 mm rr=>by
  rw[e];exact o3.up l3 (fun c hc=>by
   rcases aO.1 hc with s|s|s|s
   ·exact .inl (aO.2 (.inl s))
   ·exact .inl (aO.2 (.inr (.inl s)))
   ·exact(mm c s).imp (fun s=>aO.2 (.inr (.inr (.inl s)))) id
   ·exact .inl (aO.2 (.inr (.inr (.inr s))))) (fun c h1 _ h3=>rr c (fun s=>h1 (aO.2 (.inr (.inr (.inl s))))) h3)
 by_cases k3:m.kind=3
 ·rw[if_pos k3]at hR;simp only[au,Aaa,Aab,ss,kF,kG,iY,iZ,bC,ah.c,ag,ae,aR k3,r6,z1,z2,z3];refine al.fk (by simp only[EO,z3,z4]) (aI (b9.fk (aB.bO true) oA) (aI (.same _) aZ)) (fun h=>Mn true v.aq[k].answers hlok.2.2 m.question h) (.bool _) ?_;cases hh:v.aq[k].answers.any fun q=>q.id == m.question
  ·simp only[au,Aaa,Aab,ss,kF,kG,iY,iZ,bC,ah.c,ag,ae];have sp:=stop (by rw[hR,if_neg (by rw[hh];simp)]);first|exact⟨rfl,sp⟩|exact⟨rfl,rfl,sp⟩|exact sp
  rw[if_pos hh]at hR;simp only[au,Aaa,Aab,ss,kF,kG,iY,iZ,bC,ah.c,ag,ae,ji,sO,sI,sK];refine al.ref rfl (Bq v hL (by rw[yr]at gw;omega) peer (gU 4 m.question) h' o.at (sC h' 4 m.question) List.nodup_nil (fun c hc=>by cases hc)) ?_;rintro _ H2 ⟨rfl,u⟩;have fin:e9 h' b (fun c=>c∈dh fE f2 fL f4) H2 R:=by rw[hR];exact e9.mono u fun c hc=>hc.elim id fun h=>by cases h
  simp only[au,Aaa,Aab,ss,kF,kG,iY,iZ,bC,ah.c,ag,ae];first|exact⟨rfl,fin⟩|exact⟨rfl,rfl,fin⟩|exact fin
 rw[if_neg k3]at hR;by_cases k5:m.kind=5
 ·rw[if_pos k5]at hR;simp only[au,Aaa,Aab,ss,kF,kG,iY,iZ,bC,ah.c,ag,ae,aW k3,aR k5,r6,z1,z2,z3];refine al.own (by simp only[EO,z3,z4]) (aI (b9.fk (aB.bO true) oA) (aI (.same _) aZ)) (fun h=>PT true v.aq[k].answers hlok.2.2 m.question h) ?_;rintro w H2 fr;replace fr:aX h' _ _ _:=fr;obtain⟨fw,ow,nw,bw,ew⟩:=fr.c1;obtain⟨y1,y2,y3,y4⟩:=ow.cell;have bLlt:bL<h'.length:=o.lt _ (aO.2 (.inr (.inr (.inl bmL))));obtain⟨H3,s3,m3,l3,r3⟩:=(MZ mL (ew.fr bL bLlt)).put 6 [w] (by simp) (by simp only[je,jg,y3];rfl);replace m3:pj H3 bL gL pre [.int .i64 v.aq[k].peer,.bool v.aq[k].up,wX,.int .i64 v.aq[k].next,wQ,.int .i64 v.aq[k].asked,w] post:=m3;have lw:=ew.len;have lt0:=oR0.lt;have f23:∀c,c<h'.length→c≠bL→H3[c]? = h'[c]?:=fun c h1 h2=>by rw[r3 c h2,ew.fr c h1]
  obtain⟨nX,nQA,dX⟩:=Aah.1 nf0;obtain⟨nQ,_,dQ⟩:=Aah.1 nQA;obtain⟨fL3,o3,me3⟩:=wrL H3 _ (GD v.aq[k] m.question) (fX++(fQ++fw)) [] (by omega) (fun c hc=>by cases hc) m3
   (gB (l:=GD v.aq[k] m.question) (oX.frame fun c hc=>f23 c (lt0 c (by simp[hc])) (fun e=>bnL (e▸(by simp[hc])))) (oQ.frame fun c hc=>f23 c (lt0 c (by simp[hc])) (fun e=>bnL (e▸(by simp[hc])))) (ow.frame fun c hc=>r3 c (fun e=>by have:=bw c hc;omega)))
   (Aah.2 ⟨nX,Aah.2 ⟨nQ,nw,fun x hx y hy e=>by have:=bw y hy;have:=oQ.lt x hx;omega⟩,fun x hx y hy e=>by
    rcases Aae.1 hy with s|s
    ·exact dX x hx y (by simp[s]) e
    ·have:=oX.lt x hx;have:=bw y s;omega⟩)
   (fun c hc=>by
    simp only[Aae]at hc ⊢;rcases hc with s|s|s
    ·exact .inl (.inl s)
    ·exact .inl (.inr (.inl s))
    ·exact .inr (.inr (bw c s)))
   (fun c h1 _ _ h3=>f23 c h1 h3)
  have fin:=LK _ H3 fL3 hR o3 (by omega) (fun c hc=>by
   rcases me3 c hc with⟨s,_⟩|s
   ·exact .inl s
   ·simp only[Aae]at s;rcases s with s|s|s
    ·exact .inl (sf0 c (by simp[s]))
    ·exact .inl (sf0 c (by simp[s]))
    ·exact .inr (bw c s)) (fun c h1 h2=>f23 c h2 (fun e=>h1 (e▸bmL)))
  simp only[au,Aaa,Aab,ss,kF,kG,iY,iZ,bC,ah.c,ag,ae,y1,y2,y3,s3];first|exact⟨rfl,fin⟩|exact⟨rfl,rfl,fin⟩|exact fin
 rw[if_neg k5]at hR;by_cases k6:m.kind=6;rotate_left
 ·rw[if_neg k6]at hR;have sp:=stop hR;simp only[au,Aaa,Aab,ss,kF,kG,iY,iZ,bC,ah.c,ag,ae,aW k3,aW k5,aW k6];first|exact⟨rfl,sp⟩|exact⟨rfl,rfl,sp⟩|exact sp
 rw[if_pos k6]at hR;simp only[au,Aaa,Aab,ss,kF,kG,iY,iZ,bC,ah.c,ag,ae,aW k3,aW k5,aR k6];refine zrq (V2 v.aq[k] hlok.1 m.pos m.count h' mL oR0 nf0 bnL) ?_;rintro _ H3 ⟨rfl,l3,row',f',m3,o3,n3,b3,r3⟩;replace l3:h'.length≤H3.length:=l3;replace r3:∀c,c∉fX++(fQ++fA)→c≠bL→c<h'.length→H3[c]? = h'[c]?:=r3;obtain⟨fL3,oo3,me3⟩:=wrL H3 row' (qo v.aq[k] m.pos m.count) f' [] l3 (fun c hc=>by cases hc) m3 o3 n3 (fun c hc=>(b3 c hc).imp id .inr) (fun c h1 h2 _ h3=>r3 c h2 h3 h1);have fin:=LK _ H3 fL3 hR oo3 l3 (fun c hc=>by
  rcases me3 c hc with⟨s,_⟩|s
  ·exact .inl s
  ·exact(b3 c s).imp (sf0 c) id) (fun c h1 h2=>r3 c (fun s=>h1 (sf0 c s)) (fun e=>h1 (e▸bmL)) h2)
 simp only[au,Aaa,Aab,ss,kF,kG,iY,iZ,bC,ah.c,ag,ae];first|exact⟨rfl,fin⟩|exact⟨rfl,rfl,fin⟩|exact fin
structure GX (K:Nat) (v:ar):Prop where
 gi:GI K v
 rq:RQ [] v
 ki:KI v
 nl:∀l∈v.aq,NL l
set_option maxHeartbeats 4000000 in
set_option maxRecDepth 100000 in
theorem Vn{K:Nat}(v:ar)(x:GX K v)(hK:K+10≤100)(peer:Int)(β:Bool)(m:ah)(hm:m.args.length≤4)(hn:m.name.size≤100)(H:AH){b:Nat}{f:List Nat}(a:jr H b v f):
 T pQ Γ Fn.kaY [.gp b 0 0,.int .i64 peer,.agg (m.c β)] H fun r H'=>r=.tup []∧e9 H b (fun c=>c∈f) H' (kq v peer m):=by
 refine kaY_e (aC aG mixed [] _ _ _ ?_);unfold OE;by_cases k1:m.kind=1
 ·simp only[au,Aaa,Aab,xZ,bC,ah.c,ae,aR k1];refine zrq (WO v x.gi x.rq x.ki x.nl hK peer β m hm hn H a) ?_;rintro _ H' ⟨rfl,fin⟩;replace fin:e9 H b (fun c=>c∈f) H' (kq v peer m):=by unfold kq;rw[if_pos k1];exact fin
  simp only[au,Aaa,Aab,xZ,bC,ah.c,ae];first|exact⟨rfl,fin⟩|exact⟨rfl,rfl,fin⟩|exact fin
 by_cases k2:m.kind=2
 ·simp only[au,Aaa,Aab,xZ,bC,ah.c,ae,aW k1,aR k2];refine zrq (SE v x.gi x.rq x.ki (by omega) peer β m hm hn H a) ?_;rintro _ H' ⟨rfl,fin⟩;replace fin:e9 H b (fun c=>c∈f) H' (kq v peer m):=by unfold kq;rw[if_neg k1,if_pos k2];exact fin
  simp only[au,Aaa,Aab,xZ,bC,ah.c,ae];first|exact⟨rfl,fin⟩|exact⟨rfl,rfl,fin⟩|exact fin
 by_cases k4:m.kind=4
 ·simp only[au,Aaa,Aab,xZ,bC,ah.c,ae,aW k1,aW k2,aR k4];refine zrq (Se v x.gi x.rq x.ki (by omega) peer β m hm hn H a) ?_;rintro _ H' ⟨rfl,fin⟩;replace fin:e9 H b (fun c=>c∈f) H' (kq v peer m):=by unfold kq;rw[if_neg k1,if_neg k2,if_pos k4];exact fin
  simp only[au,Aaa,Aab,xZ,bC,ah.c,ae];first|exact⟨rfl,fin⟩|exact⟨rfl,rfl,fin⟩|exact fin
 ·simp only[au,Aaa,Aab,xZ,bC,ah.c,ae,aW k1,aW k2,aW k4];refine zrq (OH v x.gi (by omega) peer β m hm hn H a) ?_;rintro _ H' ⟨rfl,fin⟩;replace fin:e9 H b (fun c=>c∈f) H' (kq v peer m):=by unfold kq;rw[if_neg k1,if_neg k2,if_neg k4];exact fin
  simp only[au,Aaa,Aab,xZ,bC,ah.c,ae];first|exact⟨rfl,fin⟩|exact⟨rfl,rfl,fin⟩|exact fin
set_option maxHeartbeats 4000000 in
set_option maxRecDepth 100000 in
theorem VK{K:Nat}(β β':Bool)(v:ar)(x:GX K v)(hK:K+10≤100)(peer:Int)(m:ah)(hm:m.args.length≤4)(hn:m.name.size≤100)(h:AH):
 T pQ Γ Fn.kaG [.agg (v.c β),.int .i64 peer,.agg (m.c β')] h (aX h [.a (ng v peer m).cd]):=by
 refine T.jJ ?_;have gw:=x.gi.w;refine UM (aC aG mixed [7] _ _ _ ?_);unfold N6;simp only[au,Aaa,Aab,HG,bC,ar.c,ah.c];refine zrq (HU β v (x.gi.vi.Gt.mono (by omega)) _) ?_;rintro w H1 fr;replace fr:aX h _ _ _:=fr;obtain⟨ac,f,rfl,o,nd,bb,eg⟩:=fr.a1;obtain⟨wE,w2,wL,w4,fE,f2,fL,f4,rfl,rfl,oE,o2,oL,o4⟩:=kJ o;obtain⟨a1,a2,a3,a4⟩:=oE.cell;obtain⟨b1,b2,b3,b4⟩:=o2.cell;obtain⟨c1,c2,c3,c4⟩:=oL.cell;obtain⟨d1,d2,d3,d4⟩:=o4.cell;obtain⟨H2,s2,hb2,l2,r2⟩:=pA (H:=H1) (z:=[.int .i64 0,.nils,.nils,.nils,.nils]) (cells:=[.int .i64 v.id,wE,w2,wL,w4]) rfl (by simp only[je,jg,a3,b3,c3,d3];rfl);have lt1:∀c∈fE++(f2++(fL++f4)),c<H1.length:=fun c hc=>o.lt c hc;have vat2:jr H2 H1.length v (fE++(f2++(fL++f4))):=jr.of hb2 (o.frame fun c hc=>r2 c (lt1 c hc)) nd (fun hc=>Aai _ (lt1 _ hc));simp only[au,Aaa,Aab,HG,bN,pf _ _ (show Aar [AV.int .i64 0,.nils,.nils,.nils,.nils] bM=true from rfl),jH,a1,a2,a3,b1,b2,b3,c1,c2,c3,d1,d2,d3,s2];refine zrq (SE v x.gi x.rq x.ki (by omega) peer β' m hm hn H2 vat2) ?_;rintro _ H3 ⟨rfl,u3⟩;obtain⟨wE',w2',wL',w4',_,_,_,_,o3,own3,nd3,bb3',N,hN⟩:=kN eg l2 r2 bb u3;obtain⟨aa1,aa2,aa3,aa4⟩:=o3.oE.cell;obtain⟨bb1,bb2,bb3,bb4⟩:=o3.o2.cell;obtain⟨cc1,cc2,cc3,cc4⟩:=o3.oL.cell;obtain⟨dd1,dd2,dd3,dd4⟩:=o3.o4.cell;have cb3:∀(e:List AV) (L:List (List AV)) (off n:Nat),(St.mk e L H3).cells (.gp H1.length 0 off) n=sub _ off n:=fun e L off n=>b8 o3.hb;simp only[au,Aaa,Aab,HG,bN,cb3,aa1,aa2,aa3,bb1,bb2,bb3,cc1,cc2,cc3,dd1,dd2,dd3];exact⟨by first|simp only[Aaj,Aak,EO,aa3,aa4,bb3,bb4,cc3,cc4,dd3,dd4]|(simp only[cY,EO,aa3,aa4,bb3,bb4,cc3,cc4,dd3,dd4])|(show gq _=true;simp only[EO,aa3,aa4,bb3,bb4,cc3,cc4,dd3,dd4]),_,N,_,rfl,hN,own3,nd3,bb3'⟩
set_option maxHeartbeats 4000000 in
set_option maxRecDepth 100000 in
theorem Y6{K:Nat}(β β':Bool)(v:ar)(x:GX K v)(hK:K+10≤100)(peer:Int)(m:ah)(hm:m.args.length≤4)(hn:m.name.size≤100)(h:AH):
 T pQ Γ Fn.kaF [.agg (v.c β),.int .i64 peer,.agg (m.c β')] h (aX h [.a (nJ v peer m).cd]):=by
 refine T.jJ ?_;have gw:=x.gi.w;refine XW (aC aG mixed [7] _ _ _ ?_);unfold Qu;simp only[au,Aaa,Aab,IE,bC,ar.c,ah.c];refine zrq (HU β v (x.gi.vi.Gt.mono (by omega)) _) ?_;rintro w H1 fr;replace fr:aX h _ _ _:=fr;obtain⟨ac,f,rfl,o,nd,bb,eg⟩:=fr.a1;obtain⟨wE,w2,wL,w4,fE,f2,fL,f4,rfl,rfl,oE,o2,oL,o4⟩:=kJ o;obtain⟨a1,a2,a3,a4⟩:=oE.cell;obtain⟨b1,b2,b3,b4⟩:=o2.cell;obtain⟨c1,c2,c3,c4⟩:=oL.cell;obtain⟨d1,d2,d3,d4⟩:=o4.cell;obtain⟨H2,s2,hb2,l2,r2⟩:=pA (H:=H1) (z:=[.int .i64 0,.nils,.nils,.nils,.nils]) (cells:=[.int .i64 v.id,wE,w2,wL,w4]) rfl (by simp only[je,jg,a3,b3,c3,d3];rfl);have lt1:∀c∈fE++(f2++(fL++f4)),c<H1.length:=fun c hc=>o.lt c hc;have vat2:jr H2 H1.length v (fE++(f2++(fL++f4))):=jr.of hb2 (o.frame fun c hc=>r2 c (lt1 c hc)) nd (fun hc=>Aai _ (lt1 _ hc));simp only[au,Aaa,Aab,IE,bN,pf _ _ (show Aar [AV.int .i64 0,.nils,.nils,.nils,.nils] bM=true from rfl),jH,a1,a2,a3,b1,b2,b3,c1,c2,c3,d1,d2,d3,s2];refine zrq (Se v x.gi x.rq x.ki (by omega) peer β' m hm hn H2 vat2) ?_;rintro _ H3 ⟨rfl,u3⟩;obtain⟨wE',w2',wL',w4',_,_,_,_,o3,own3,nd3,bb3',N,hN⟩:=kN eg l2 r2 bb u3;obtain⟨aa1,aa2,aa3,aa4⟩:=o3.oE.cell;obtain⟨bb1,bb2,bb3,bb4⟩:=o3.o2.cell;obtain⟨cc1,cc2,cc3,cc4⟩:=o3.oL.cell;obtain⟨dd1,dd2,dd3,dd4⟩:=o3.o4.cell;have cb3:∀(e:List AV) (L:List (List AV)) (off n:Nat),(St.mk e L H3).cells (.gp H1.length 0 off) n=sub _ off n:=fun e L off n=>b8 o3.hb;simp only[au,Aaa,Aab,IE,bN,cb3,aa1,aa2,aa3,bb1,bb2,bb3,cc1,cc2,cc3,dd1,dd2,dd3];exact⟨by first|simp only[Aaj,Aak,EO,aa3,aa4,bb3,bb4,cc3,cc4,dd3,dd4]|(simp only[cY,EO,aa3,aa4,bb3,bb4,cc3,cc4,dd3,dd4])|(show gq _=true;simp only[EO,aa3,aa4,bb3,bb4,cc3,cc4,dd3,dd4]),_,N,_,rfl,hN,own3,nd3,bb3'⟩
set_option maxHeartbeats 4000000 in
set_option maxRecDepth 100000 in
theorem Wd{K:Nat}(β β':Bool)(v:ar)(x:GX K v)(hK:K+10≤100)(peer:Int)(m:ah)(hm:m.args.length≤4)(hn:m.name.size≤100)(h:AH):
 T pQ Γ Fn.kaE [.agg (v.c β),.int .i64 peer,.agg (m.c β')] h (aX h [.a (uF v peer m).cd]):=by
 refine T.jJ ?_;have gw:=x.gi.w;refine Za (aC aG mixed [7] _ _ _ ?_);unfold Rm;simp only[au,Aaa,Aab,Ig,bC,ar.c,ah.c];refine zrq (HU β v (x.gi.vi.Gt.mono (by omega)) _) ?_;rintro w H1 fr;replace fr:aX h _ _ _:=fr;obtain⟨ac,f,rfl,o,nd,bb,eg⟩:=fr.a1;obtain⟨wE,w2,wL,w4,fE,f2,fL,f4,rfl,rfl,oE,o2,oL,o4⟩:=kJ o;obtain⟨a1,a2,a3,a4⟩:=oE.cell;obtain⟨b1,b2,b3,b4⟩:=o2.cell;obtain⟨c1,c2,c3,c4⟩:=oL.cell;obtain⟨d1,d2,d3,d4⟩:=o4.cell;obtain⟨H2,s2,hb2,l2,r2⟩:=pA (H:=H1) (z:=[.int .i64 0,.nils,.nils,.nils,.nils]) (cells:=[.int .i64 v.id,wE,w2,wL,w4]) rfl (by simp only[je,jg,a3,b3,c3,d3];rfl);have lt1:∀c∈fE++(f2++(fL++f4)),c<H1.length:=fun c hc=>o.lt c hc;have vat2:jr H2 H1.length v (fE++(f2++(fL++f4))):=jr.of hb2 (o.frame fun c hc=>r2 c (lt1 c hc)) nd (fun hc=>Aai _ (lt1 _ hc));simp only[au,Aaa,Aab,Ig,bN,pf _ _ (show Aar [AV.int .i64 0,.nils,.nils,.nils,.nils] bM=true from rfl),jH,a1,a2,a3,b1,b2,b3,c1,c2,c3,d1,d2,d3,s2];refine zrq (OH v x.gi (by omega) peer β' m hm hn H2 vat2) ?_;rintro _ H3 ⟨rfl,u3⟩;obtain⟨wE',w2',wL',w4',_,_,_,_,o3,own3,nd3,bb3',N,hN⟩:=kN eg l2 r2 bb u3;obtain⟨aa1,aa2,aa3,aa4⟩:=o3.oE.cell;obtain⟨bb1,bb2,bb3,bb4⟩:=o3.o2.cell;obtain⟨cc1,cc2,cc3,cc4⟩:=o3.oL.cell;obtain⟨dd1,dd2,dd3,dd4⟩:=o3.o4.cell;have cb3:∀(e:List AV) (L:List (List AV)) (off n:Nat),(St.mk e L H3).cells (.gp H1.length 0 off) n=sub _ off n:=fun e L off n=>b8 o3.hb;simp only[au,Aaa,Aab,Ig,bN,cb3,aa1,aa2,aa3,bb1,bb2,bb3,cc1,cc2,cc3,dd1,dd2,dd3];exact⟨by first|simp only[Aaj,Aak,EO,aa3,aa4,bb3,bb4,cc3,cc4,dd3,dd4]|(simp only[cY,EO,aa3,aa4,bb3,bb4,cc3,cc4,dd3,dd4])|(show gq _=true;simp only[EO,aa3,aa4,bb3,bb4,cc3,cc4,dd3,dd4]),_,N,_,rfl,hN,own3,nd3,bb3'⟩
set_option maxHeartbeats 4000000 in
set_option maxRecDepth 100000 in
theorem kaD_X{K:Nat}(β β':Bool)(v:ar)(x:GX K v)(hK:K+10≤100)(peer:Int)(m:ah)(hm:m.args.length≤4)(hn:m.name.size≤100)(h:AH):
 T pQ Γ Fn.kaD [.agg (v.c β),.int .i64 peer,.agg (m.c β')] h (aX h [.a (kq v peer m).cd]):=by
 refine T.jJ ?_;have gw:=x.gi.w;refine We (aC aG mixed [7] _ _ _ ?_);unfold QL;simp only[au,Aaa,Aab,IS,bC,ar.c,ah.c];refine zrq (HU β v (x.gi.vi.Gt.mono (by omega)) _) ?_;rintro w H1 fr;replace fr:aX h _ _ _:=fr;obtain⟨ac,f,rfl,o,nd,bb,eg⟩:=fr.a1;obtain⟨wE,w2,wL,w4,fE,f2,fL,f4,rfl,rfl,oE,o2,oL,o4⟩:=kJ o;obtain⟨a1,a2,a3,a4⟩:=oE.cell;obtain⟨b1,b2,b3,b4⟩:=o2.cell;obtain⟨c1,c2,c3,c4⟩:=oL.cell;obtain⟨d1,d2,d3,d4⟩:=o4.cell;obtain⟨H2,s2,hb2,l2,r2⟩:=pA (H:=H1) (z:=[.int .i64 0,.nils,.nils,.nils,.nils]) (cells:=[.int .i64 v.id,wE,w2,wL,w4]) rfl (by simp only[je,jg,a3,b3,c3,d3];rfl);have lt1:∀c∈fE++(f2++(fL++f4)),c<H1.length:=fun c hc=>o.lt c hc;have vat2:jr H2 H1.length v (fE++(f2++(fL++f4))):=jr.of hb2 (o.frame fun c hc=>r2 c (lt1 c hc)) nd (fun hc=>Aai _ (lt1 _ hc));simp only[au,Aaa,Aab,IS,bN,pf _ _ (show Aar [AV.int .i64 0,.nils,.nils,.nils,.nils] bM=true from rfl),jH,a1,a2,a3,b1,b2,b3,c1,c2,c3,d1,d2,d3,s2];refine zrq (Vn v x hK peer β' m hm hn H2 vat2) ?_;rintro _ H3 ⟨rfl,u3⟩;obtain⟨wE',w2',wL',w4',_,_,_,_,o3,own3,nd3,bb3',N,hN⟩:=kN eg l2 r2 bb u3;obtain⟨aa1,aa2,aa3,aa4⟩:=o3.oE.cell;obtain⟨bb1,bb2,bb3,bb4⟩:=o3.o2.cell;obtain⟨cc1,cc2,cc3,cc4⟩:=o3.oL.cell;obtain⟨dd1,dd2,dd3,dd4⟩:=o3.o4.cell;have cb3:∀(e:List AV) (L:List (List AV)) (off n:Nat),(St.mk e L H3).cells (.gp H1.length 0 off) n=sub _ off n:=fun e L off n=>b8 o3.hb;simp only[au,Aaa,Aab,IS,bN,cb3,aa1,aa2,aa3,bb1,bb2,bb3,cc1,cc2,cc3,dd1,dd2,dd3];exact⟨by first|simp only[Aaj,Aak,EO,aa3,aa4,bb3,bb4,cc3,cc4,dd3,dd4]|(simp only[cY,EO,aa3,aa4,bb3,bb4,cc3,cc4,dd3,dd4])|(show gq _=true;simp only[EO,aa3,aa4,bb3,bb4,cc3,cc4,dd3,dd4]),_,N,_,rfl,hN,own3,nd3,bb3'⟩
def oU(e:aA):Bool:=decide (e.kind=2) && decide (e.state=4)
def xo(v:ar)(n:Int):Bool:=bB n v.entities.length && oU (aD v n)
set_option maxRecDepth 100000 in
theorem Qx(β:Bool)(v:ar)(hv:v.entities.length≤1048576)(n:Int)(h:AH):T pQ Γ Fn.kam [.agg (v.c β),.int .i64 n] h fun r h'=>r=.bool (xo v n)∧h'=h:=by
 refine(?_:T pQ Γ Fn.kam _ h fun r h'=>r=.bool (xo v n)∧∃N,h'=h++N).drop (by rintro v h' ⟨rfl,N,rfl⟩;exact⟨N,rfl,.bool _,rfl,rfl⟩);refine YC (aC aG mixed [2] _ _ _ ?_);unfold SU;simp only[au,Aaa,Aab,DC,bC,xL _ _ (ar.iX β v),jH];have hp:Ptr (h++[some (0,v.c β)]) (.gp h.length 0 0) (v.c β):=Ptr.Ud (eQ _ _);refine zrq (Sh β v hv n _ hp) ?_;rintro r h' ⟨⟨k,hk,rfl,rfl⟩|⟨hno,rfl⟩,e⟩
 ·replace e:h'=h++[some (0,v.c β)]:=e;subst e;have e1:bB (k:Int) v.entities.length=true:=by
   simp only[bB,Aad,decide_eq_true_eq];omega
  obtain⟨_,_,_,_,eA⟩:=cL e1;have eA':aD v (k:Int)=v.entities[k]:=by rw[aD,Aal,Aac,Aam hk];rfl
  by_cases t1:v.entities[k].kind=2
  ·by_cases t2:v.entities[k].state=4
   ·simp only[au,Aaa,Aab,DC,bC,aA.c,ae,aR t1,aR t2];exact⟨rfl,by rw[xo,e1,eA',oU,aR t1,aR t2];rfl,_,rfl⟩
   ·simp only[au,Aaa,Aab,DC,bC,aA.c,ae,aR t1,aW t2];exact⟨rfl,by rw[xo,e1,eA',oU,aR t1,aW t2];rfl,_,rfl⟩
  ·simp only[au,Aaa,Aab,DC,bC,aA.c,ae,aW t1];exact⟨rfl,by rw[xo,e1,eA',oU,aW t1];rfl,_,rfl⟩
 ·replace e:h'=h++[some (0,v.c β)]:=e;subst e;have e1:bB n v.entities.length=false:=by
   cases hh:bB n v.entities.length
   ·rfl
   ·obtain⟨k,hk,ek,_⟩:=cL hh;have:=hno k ek;omega
  simp only[au,Aaa,Aab,DC,bC];exact⟨rfl,by rw[xo,e1];rfl,_,rfl⟩
def NN(v:ar):Prop:=∀l∈v.aq,NE l
theorem NE.Ua:NE (default:aF):=⟨fun x hx=>(by cases hx),fun x hx=>(by cases hx)⟩
theorem NN.getD{v:ar}(h:NN v)(k:Nat):NE (v.aq.getD k default):=by
 rw[Aac];cases hk:v.aq[k]? with
 | some l=>exact h l (List.mem_of_getElem? hk)
 | none=>exact NE.Ua
theorem NN.aq{v v':ar}(h:NN v)(e:v'.aq=v.aq):NN v':=by unfold NN;rw[e];exact h
theorem NN.dU{v:ar}(h:NN v)(k:Nat){l:aF}(hl:NE l):NN (dU v k l):=fun x hx=>by
 rcases List.mem_or_eq_of_mem_set hx with g|g
 ·exact h x g
 ·rw[g];exact hl
theorem sD(v:ar)(p:Int)(m:ah):(e8 v p m).aq=v.aq:=by unfold e8;split<;>rfl
theorem NN.push{v:ar}(h:NN v)(p:Int)(m:ah):NN (e8 v p m):=h.aq (sD v p m)
theorem NN.vp{v:ar}(h:NN v)(peer:Int)(x:an):NN (bq v peer x).1:=by
 unfold bq;split
 ·exact h
 ·split
  ·rename_i c;split
   ·exact h
   ·refine h.dU _ ((h.getD _).put ?_);simp only[Aad,bB,decide_eq_true_eq]at c;exact c.2.1.1
  ·exact h
theorem NN.pU(peer:Int):∀(l:List an) {v:ar},NN v→NN (aQ v peer l).1
 | [],_,h=>h
 | x::l,_,h=>by
  simp only[aQ];exact NN.pU peer l (h.vp peer x)
theorem NN.call{v:ar}(h:NN v)(s:aK)(peer pos ans:Int):NN (fW v s peer pos ans):=by
 unfold fW hZ;refine NN.push (v:=cT _ _ _) (NN.aq (v:=oP (cm v s peer) peer s.result) ?_ rfl) _ _;exact NN.dU (NN.pU peer s.args h) _ (NN.getD (NN.pU peer s.args h) _)
def DN(D:ar→aK→ar):Prop:=∀v s,NN v→NN (D v s)
theorem AJ{α:Type}{D:ar→α→ar}(h:∀v s,NN v→NN (D v s)):∀(q:List α) {v:ar},NN v→NN (q.foldl D v)
 | [],_,r=>r
 | s::q,v,r=>AJ h q (h v s r)
theorem DN.dp{D:ar→aK→ar}(h:DN D){v:ar}(r:NN v)(s:aK)(peer pos ans:Int):NN (dp D v s peer pos ans):=by
 unfold Go.Proofs.YtolciaflplefcaaGreat.dp;split
 ·exact AJ h _ (r.call s peer pos ans)
 ·exact r
theorem NN.step{v:ar}(h:NN v)(y:an)(a:cj):NN (bF y v a):=by
 unfold bF;split
 ·exact h.aq rfl
 ·exact(h.vp _ _).push _ _
theorem DN.dD{D:ar→aK→ar}(h:DN D){v:ar}(r:NN v)(p:Int)(x:an):NN (dD D v p x):=by
 unfold Go.Proofs.YtolciaflplefcaaGreat.dD;split
 ·exact AJ (fun v a h=>h.step _ a) _ (AJ h _ (r.aq rfl))
 ·exact r
theorem uT:∀n,DN (aT n)
 | 0=>fun _ _ h=>h
 | n+1=>fun v s r=>by
  have h:=uT n;have fail:NN (dD (aT n) v s.result bd):=h.dD r _ _;unfold aT
  repeat' split
  all_goals first|exact r|exact fail|exact h.dp r _ _ _ _|exact r.aq rfl|exact NN.aq (h.dp r _ _ _ _) rfl
theorem FC{v:ar}(h:NN v)(peer:Int)(w:aJ):NN (gm v peer w).1:=h.aq (nG v peer w).aq
theorem NN.nl{v:ar}(h:NN v){N:Nat}(hl:∀l∈v.aq,kv N l):∀l∈v.aq,NL l:=fun l hm=>⟨fun x hx=>⟨((hl l hm).ex x hx).1,(h l hm).1 x hx⟩,(h l hm).2⟩
theorem NN.of{v:ar}(h:∀l∈v.aq,NL l):NN v:=fun l hm=>⟨fun x hx=>((h l hm).1 x hx).2,(h l hm).2⟩
theorem gx_mk{K:Nat}{v:ar}(g:GI K v)(r:RQ [] v)(k:KI v)(n:NN v):GX K v:=⟨g,r,k,n.nl g.lb.sg⟩
theorem GX.nn{K:Nat}{v:ar}(x:GX K v):NN v:=NN.of x.nl
theorem GX.mono{K K':Nat}{v:ar}(x:GX K v)(h:K≤K'):GX K' v:=⟨x.gi.mono h,x.rq,x.ki,x.nl⟩
theorem Hr{v:ar}(h:NN v)(peer q p:Int)(x:an):NN (ta v peer q p x):=
 (uT _).dD ((h.dU _ (l:=rG (fJ v peer) q) (h.getD _)).push _ _) _ _
theorem JY{v:ar}(h:NN v)(peer:Int)(m:ah):NN (nJ v peer m):=by
 unfold nJ;split
 ·exact Hr h _ _ _ _
 ·exact h
theorem MF{v:ar}(h:NN v)(peer:Int)(m:ah):NN (ng v peer m):=by
 unfold ng;split
 ·split
  ·exact NN.push (v:=cT _ _ _) (NN.aq (FC h peer m.value) rfl) _ _
  ·exact Hr (FC h peer m.value) _ _ _ _
 ·exact h
theorem GG{v:ar}(h:NN v)(peer:Int)(m:ah):NN (km v peer m):=by
 unfold km;split
 ·split
  ·exact h.push _ _
  ·refine uT _ _ _ (NN.aq (v:=nz v peer m) ?_ (wh peer m.args (nz v peer m)).2.1.aq);have h1:NN (dv v (ny peer m.question)):=h.aq (by unfold dv;split<;>rfl);exact h1.dU _ ⟨(h.getD _).1,fun q hq=>by
    rcases Aae.1 hq with g|g
    ·exact(h.getD _).2 q g
    ·rw[Aaf.1 g];exact Int.natCast_nonneg _⟩
 ·exact h
theorem GX.call{K:Nat}{v:ar}(x:GX K v)(hK:K+10≤100)(peer:Int)(m:ah)(hm:m.args.length≤4)(hn:m.name.size≤100):GX (K+10) (km v peer m):=by
 obtain⟨h1,h2,h3⟩:=Cr x.gi hK peer m hm hn;exact gx_mk h1 (h2 x.rq) (h3 x.ki) (GG x.nn peer m)
theorem GX.ret{K:Nat}{v:ar}(x:GX K v)(hK:K+1≤1000)(peer:Int)(m:ah):GX (K+1) (ng v peer m):=by
 obtain⟨h1,h2,h3⟩:=Gr x.gi hK peer m;exact gx_mk h1 (h2 x.rq) (h3 x.ki) (MF x.nn peer m)
theorem GX.T6{K:Nat}{v:ar}(x:GX K v)(hK:K+1≤1000)(peer:Int)(m:ah):GX (K+1) (nJ v peer m):=by
 obtain⟨h1,h2,h3⟩:=FX x.gi hK peer m;exact gx_mk h1 (h2 x.rq) (h3 x.ki) (JY x.nn peer m)
structure LG (l l':aF):Prop where
 peer:l'.peer=l.peer
 ak:l.asked≤l'.asked
 qs:∀q∈l'.questions,q∈l.questions∨l.asked<q.id
theorem LG.refl(l:aF):LG l l:=⟨rfl,Aan _,fun _ h=>.inl h⟩
theorem LG.trans{a b c:aF}(h:LG a b)(k:LG b c):LG a c:=⟨k.peer.trans h.peer,Int.le_trans h.ak k.ak,fun q hq=>by
 rcases k.qs q hq with g|g
 ·exact h.qs q g
 ·exact .inr (by have:=h.ak;omega)⟩
structure LV (v v':ar):Prop where
 len:v'.aq.length=v.aq.length
 lk:∀k,LG (v.aq.getD k default) (v'.aq.getD k default)
theorem LV.refl(v:ar):LV v v:=⟨rfl,fun _=>.refl _⟩
theorem LV.trans{a b c:ar}(h:LV a b)(k:LV b c):LV a c:=⟨k.len.trans h.len,fun i=>(h.lk i).trans (k.lk i)⟩
theorem LV.aq{v v':ar}(e:v'.aq=v.aq):LV v v':=⟨by rw[e],fun k=>by rw[e];exact .refl _⟩
theorem LV.dU{v:ar}{k:Nat}{l:aF}(hl:LG (v.aq.getD k default) l):LV v (dU v k l):=⟨by simp[Go.Proofs.YtolciaflplefcaaGreat.dU],fun i=>by
 simp only[Go.Proofs.YtolciaflplefcaaGreat.dU,Aac,List.getElem?_set];by_cases h:k=i
 ·subst h;rw[if_pos rfl];by_cases hk:k<v.aq.length
  ·rw[if_pos hk];rw[Aac]at hl;exact hl
  ·rw[if_neg hk,List.getElem?_eq_none (by omega)];exact .refl _
 ·rw[if_neg h];exact .refl _⟩
theorem LV.sg{v v':ar}(h:LV v v')(peer:Int):sg v' peer=sg v peer:=by
 have e:v'.aq.map aF.peer=v.aq.map aF.peer:=by
  apply List.ext_getElem
  ·simp[h.len]
  ·intro i h1 h2;have:=(h.lk i).peer;simp only[Aao]at h1 h2;simp only[List.getElem_map];simpa[Aac,h1,h2]using this
 unfold Go.Proofs.YtolciaflplefcaaGreat.sg;rw[Gh (f:=aF.peer) (q:=fun x=>x == peer) e]
theorem LV.at{v v':ar}(h:LV v v')(peer:Int):LG (fJ v peer) (fJ v' peer):=by
 unfold fJ;rw[h.sg peer];exact h.lk _
theorem LV.vp(v:ar)(peer:Int)(x:an):LV v (bq v peer x).1:=by
 unfold bq;split
 ·exact .refl _
 ·split
  ·split
   ·exact .refl _
   ·refine .dU ⟨?_,?_,fun q hq=>?_⟩
    ·unfold jq;split<;>rfl
    ·unfold jq;split<;>exact Aan _
    ·rw[(tT _ _).2.1]at hq;exact .inl hq
  ·exact .refl _
theorem LV.pU(peer:Int):∀(l:List an) (v:ar),LV v (aQ v peer l).1
 | [],v=>.refl v
 | x::l,v=>by
  simp only[aQ];exact(LV.vp v peer x).trans (LV.pU peer l _)
theorem LV.push(v:ar)(p:Int)(m:ah):LV v (e8 v p m):=.aq (sD v p m)
theorem LV.ask{K r:Nat}{v:ar}(hK:K≤1000)(h:LB K r v)(peer p:Int):LV v (oP v peer p):=by
 obtain⟨N,h1,h2,_⟩:=h;have li:=kv.getD h1 (Go.Proofs.YtolciaflplefcaaGreat.sg v peer);have ha:=li.ak;have w:IntKind.i64.wrap ((v.aq.getD (Go.Proofs.YtolciaflplefcaaGreat.sg v peer) default).asked+1)=(v.aq.getD (Go.Proofs.YtolciaflplefcaaGreat.sg v peer) default).asked+1:=wsm (by omega) (by omega);refine .dU ⟨rfl,?_,fun q hq=>?_⟩
 ·simp only[lO,w];omega
 ·simp only[lO]at hq;rcases Aae.1 hq with g|g
  ·exact .inl g
  ·rw[Aaf.1 g,w];exact .inr (by simp only;omega)
theorem LV.call{K r:Nat}{v:ar}{s:aK}{peer pos ans:Int}(hK:K≤1000)(h:LB K (r+(2+s.args.length)) v):LV v (fW v s peer pos ans):=by
 have l1:LB K (r+2) (cm v s peer):=LB.pU hK peer s.args (by simpa only[Nat.add_assoc]using h);unfold fW hZ;refine((LV.pU peer s.args v).trans (LV.ask hK l1 peer s.result)).trans (LV.trans (b:=cT (oP (cm v s peer) peer s.result) s.result.toNat (kT (aD v s.result) peer (sW (cm v s peer) peer s.result))) (.aq rfl) (LV.push _ _ _))
def Q7(D:ar→aK→ar):Prop:=∀K r v s,K≤1000→LB K (r+(2+s.args.length)) v→LV v (D v s)
theorem Q7.fold{D:ar→aK→ar}(h:Q7 D)(hb:K4 D){K:Nat}(hK:K≤1000):∀(q:List aK) {r:Nat} {v:ar},LB K (r+sM q) v→LV v (q.foldl D v)
 | [],_,v,_=>.refl v
 | s::q,r,v,g=>by
  rw[List.foldl_cons];have g':LB K ((r+sM q)+(2+s.args.length)) v:=g.mono (by simp only[sM,List.map_cons,List.sum_cons];omega);exact(h K _ v s hK g').trans (Q7.fold h hb hK q (hb K _ v s hK g'))
theorem Q7.dp{D:ar→aK→ar}(h:Q7 D)(hb:K4 D){K r:Nat}(hK:K≤1000)(v:ar)(s:aK)(peer pos ans:Int)(g:LB K (r+(2+s.args.length)) v):LV v (dp D v s peer pos ans):=by
 unfold Go.Proofs.YtolciaflplefcaaGreat.dp;split
 ·rename_i hc;exact(LV.call hK g).trans (h.fold hb hK _ (g.call hK hc))
 ·exact .refl v
theorem LV.step(y:an)(v:ar)(a:cj):LV v (bF y v a):=by
 unfold bF;split
 ·exact .aq rfl
 ·exact(LV.vp _ _ _).trans (LV.push _ _ _)
theorem LV.steps(y:an):∀(l:List cj) (v:ar),LV v (l.foldl (bF y) v)
 | [],v=>.refl v
 | a::l,v=>(LV.step y v a).trans (LV.steps y l _)
theorem Q7.dD{D:ar→aK→ar}(h:Q7 D)(hb:K4 D){K r:Nat}(hK:K≤1000)(v:ar)(p:Int)(x:an)(g:LB K r v):LV v (dD D v p x):=by
 unfold Go.Proofs.YtolciaflplefcaaGreat.dD;split
 ·rename_i hr;have hl:bB p v.entities.length=true:=by
   simp only[pd,Aad]at hr;exact hr.1
  have g1:oq (lJ (aD v p) (vC v p x))=0:=by simp[oq,lJ,sM]
  refine((LV.aq rfl:LV v (ky v p x)).trans (h.fold hb hK (r:=r) _ (g.cT hl _ ?_))).trans (LV.steps _ _ _);rw[g1];unfold oq;omega
 ·exact .refl v
theorem Fw:∀n,Q7 (aT n)
 | 0=>fun _ _ v _ _ _=>.refl v
 | n+1=>fun K r v s hK g=>by
  have h:=Fw n;have hb:=rk n;have fail:LV v (dD (aT n) v s.result bd):=h.dD hb (r:=r) hK _ _ _ (g.mono (by omega));have call:∀peer pos ans,LV v (dp (aT n) v (nC v s) peer pos ans):=fun peer pos ans=>h.dp hb (r:=r) hK v (nC v s) peer pos ans g;unfold aT
  repeat' split
  all_goals first|exact fail|exact call _ _ _|exact LV.aq rfl|exact(call _ _ _).trans (LV.aq rfl)
theorem FZ{l:List aB}{q:Int}(h:∀x∈l,x.id≠q):iw l q = -1:=by
 unfold iw;rw[List.find?_eq_none.2 fun x hx=>by simpa using h x hx]
theorem G8{l:List aB}{q:Int}(h:iw l q≠-1):∃x∈l,x.id=q:=by
 unfold iw at h;cases hf:l.find? fun x=>x.id == q with
 | none=>rw[hf]at h;exact absurd rfl h
 | some x=>exact⟨x,List.mem_of_find?_eq_some hf,by have:=List.find?_some hf;simpa using this⟩
theorem Gu{v:ar}{peer q st:Int}(h:∀x∈(fJ v peer).questions,x.id≠q):fN v peer q st<0:=by
 unfold fN;rw[FZ h,if_neg (fun h=>by have:=h.1;simp[bB]at this)];omega
theorem Jk{K:Nat}{v:ar}(g:GI K v)(hK:K≤1000){peer q p:Int}(hu:rO v.aq peer=true)(hq:q≤(fJ v peer).asked)(x:an)(st:Int):fN (ta v peer q p x) peer q st<0:=by
 obtain⟨k,hk,ek,_⟩:=pM hu;have e0:fJ v peer=v.aq[k]:=ib hk ek;have l0:sg v peer=k:=by rw[sg,ek];rfl
 have gf:=g.fin hk q;have lb1:LB K 0 (qJ v peer q):=by
  unfold qJ;rw[e0,l0];exact gf.lb.push _ _
 have lv:=(Fw (mJ (qJ v peer q)+1)).dD (rk _) (r:=0) hK (qJ v peer q) p x lb1;have a1:=lv.at peer;have e1:fJ (qJ v peer q) peer=rG v.aq[k] q:=by
  have el:(qJ v peer q).aq=v.aq.set k (rG v.aq[k] q):=by
   unfold qJ;rw[sD,e0,l0];rfl
  have lk:sg (qJ v peer q) peer=k:=by
   have h2:LV v (dU v k (rG v.aq[k] q)):=by
    refine .dU ?_;have:v.aq.getD k default=v.aq[k]:=by simp[Aac,hk]
    rw[this];exact⟨rfl,Aan _,fun y hy=>.inl ((Aap.1 hy).1)⟩
   have h3:=h2.sg peer;rw[l0]at h3;rw[←h3,sg,sg,el];rfl
  rw[fJ,lk,el];simp[Aac,hk]
 rw[e1]at a1;rw[e0]at hq;refine Gu fun y hy=>?_;have hy':y∈(fJ (dD (aT (mJ (qJ v peer q)+1)) (qJ v peer q) p x) peer).questions:=hy;rcases a1.qs y hy' with h|h
 ·simp only[rG,nN,Aap,vK,Bool.not_eq_true']at h;intro e;rw[e]at h;simp at h
 ·intro e;have:(rG v.aq[k] q).asked=v.aq[k].asked:=rfl;omega
theorem Jz{K:Nat}{v:ar}(g:GI K v)(hK:K≤1000)(peer:Int)(m:ah):ng (ng v peer m) peer m=ng v peer m:=by
 by_cases c:m.kind=2∧pX m=true∧rO v.aq peer=true∧¬fN v peer m.question 3<0;rotate_left
 ·have e:ng v peer m=v:=by unfold ng;rw[if_neg c]
  rw[e,e]
 suffices h:fN (ng v peer m) peer m.question 3<0 by
  obtain⟨w,hw⟩:∃w,w=ng v peer m:=⟨_,rfl⟩
  rw[←hw]at h ⊢;unfold ng;rw[if_neg (fun hh=>hh.2.2.2 h)]
 have c0:=c;obtain⟨_,_,hu,hp⟩:=c;have F:=nG v peer m.value;have la:∀w:ar,w.aq=v.aq→fJ w peer=fJ v peer:=fun w e=>by unfold fJ sg;rw[e]
 have hent:iw (fJ v peer).questions m.question≠-1:=fun e=>hp (by unfold fN;rw[e,if_neg (fun h=>by have:=h.1;simp[bB]at this)];omega);obtain⟨p1,_,_⟩:=tA hp;unfold ng;rw[if_pos c0];split
 ·obtain⟨w,hw⟩:∃w,w=(gm v peer m.value).1:=⟨_,rfl⟩
  obtain⟨x,hx⟩:∃x,x=(gm v peer m.value).2:=⟨_,rfl⟩
  rw[←hw]at F ⊢;rw[←hx];obtain⟨P,hP⟩:∃P,P=fN v peer m.question 3:=⟨_,rfl⟩
  rw[←hP]at p1 ⊢;have hPe:iw (fJ v peer).questions m.question=P:=by
   rw[hP];unfold fN;split
   ·rfl
   ·rename_i hn;exfalso;apply hp;unfold fN;rw[if_neg hn];omega
  have el:(e8 (cT w P.toNat (uB (aD w P) x)) peer (gU 3 m.question)).aq=v.aq:=by rw[sD];exact F.aq
  have p1':bB P w.entities.length=true:=oC p1 F.len;unfold fN;rw[la _ el,hPe,if_neg]
  ·omega
  ·rintro⟨_,_,h3,_⟩;rw[rC (jX _ _ _).1.fH,jf p1' p1',if_pos rfl]at h3;simp[uB]at h3
 ·have gw:=g.fr F;refine Jk gw hK (by rw[F.aq];exact hu) ?_ _ _;rw[la _ F.aq];obtain⟨y,hy,e⟩:=G8 hent;have li:kv K (fJ v peer):=kv.getD g.lb.sg _;have:=(li.qs y hy).2;omega
theorem Fp{e e':aA}(k:KE e e')(h:oU e'=true):oU e=true:=by
 simp only[oU,Aad,decide_eq_true_eq]at h ⊢;exact⟨by rw[←k.kind];exact h.1,k.held h.2⟩
theorem I2{n:Nat}{v:ar}(r:RQ [] v)(p:Int)(x:an){i:Int}(hi:bB i v.entities.length=true)(h:oU (aD (dD (aT n) v p x) i)=true):oU (aD v i)=true:=by
 by_cases hp:i=p
 ·subst hp;unfold dD at h;split at h
  ·rename_i ho;obtain⟨k1,_,_,_⟩:=zS ho x;have ho':=ho;simp only[pd,Aad]at ho';have hk:bB i (ky v i x).entities.length=true:=by rw[k1];exact hi
   have hf:=(vF n).fold (mq n) (gr n) (i:=i) _ (r.kept ho'.1 x) hk;have hh:=Fp (hf.trans (KE.steps _ _ _ (by rw[(nj (gr n) _ _).1];exact hk))) h;unfold ky at hh;rw[jf ho'.1 hi,if_pos rfl]at hh;simp[oU,lJ]at hh
  ·exact h
 ·exact Fp ((vF n).dD (mq n) (gr n) r p x hi fun e=>absurd e hp) h
theorem Ld{v:ar}(peer:Int)(w:aJ){i:Int}(hi:bB i v.entities.length=true)(hk:(aD v i).kind=2):aD (gm v peer w).1 i=aD v i:=by
 unfold gm;split
 ·rfl
 split
 ·rfl
 split
 ·rfl
 split
 ·rfl
 split
 ·split<;>rfl
 split
 ·split<;>exact zO hi
 ·rename_i h;have he:=AU h;rw[jf he hi];by_cases e:i=iq (jA peer w.n) v.entities
  ·exfalso;rcases iB (jA peer w.n) v.entities with⟨k,hk',e1,e2,_⟩|⟨e1,_,_⟩
   ·have:aD v i=v.entities[k]:=by rw[e,e1,aD,Aal,Aac,Aam hk'];rfl
    rw[this]at hk;simp only[jA,Aad,decide_eq_true_eq]at e2;omega
   ·omega
  ·rw[if_neg e]
theorem IZ{v:ar}(r:RQ [] v)(peer:Int)(m:ah){i:Int}(hi:bB i v.entities.length=true)(h:oU (aD (ng v peer m) i)=true):oU (aD v i)=true∨(aD v i).count≠0:=by
 unfold ng at h;split at h
 ·rename_i c;have F:=nG v peer m.value;have Kk:=yw v peer m.value;obtain⟨p1,p2,p3⟩:=tA c.2.2.2;have hi':=oC hi F.len;have kd:∀j,bB j v.entities.length=true→oU (aD (gm v peer m.value).1 j)=true→oU (aD v j)=true:=fun j hj hh=>by
   obtain⟨e1,e2,_⟩:=Kk.ent j hj;simp only[oU,Aad,decide_eq_true_eq]at hh ⊢;rw[e1,e2]at hh;exact hh
  have at1:=Ld peer m.value p1 p2;split at h
  ·rename_i hc;rw[rC (jX _ _ _).1.fH,jf (oC p1 F.len) hi']at h;by_cases e:i=fN v peer m.question 3
   ·right
    have:=hc.2;rw[at1,←e]at this;omega
   ·rw[if_neg e]at h;exact .inl (kd i hi h)
  ·refine .inl (kd i hi ?_);have rw1:RQ [] (qJ (gm v peer m.value).1 peer m.question):=vd (uU (Kk.rq _ r) _ _) _ _;have ee:(qJ (gm v peer m.value).1 peer m.question).entities=(gm v peer m.value).1.entities:=by unfold qJ;rw[(jX _ _ _).1.fH];rfl
   have:=I2 rw1 (fN v peer m.question 3) (gm v peer m.value).2 (i:=i) (by rw[ee];exact hi') h;rw[rC ee]at this;exact this
 ·exact .inl h
theorem KF{v:ar}(peer:Int)(m:ah):v.entities.length≤(ng v peer m).entities.length:=by
 unfold ng;split
 ·have F:=nG v peer m.value;split
  ·rw[(jX _ _ _).1.fH,js];exact F.len
  ·have e:=(Eg (gr (mJ (qJ (gm v peer m.value).1 peer m.question)+1)) (qJ (gm v peer m.value).1 peer m.question) (fN v peer m.question 3) (gm v peer m.value).2).1;have ee:(qJ (gm v peer m.value).1 peer m.question).entities=(gm v peer m.value).1.entities:=by unfold qJ;rw[(jX _ _ _).1.fH];rfl
   unfold ta;rw[e,ee];exact F.len
 ·exact Aas _
theorem LW{v:ar}(h:NN v)(t:Int)(name:ByteArray)(args:List an):NN (kY v t name args).1:=by
 unfold kY;split
 ·exact uT _ _ _ (h.aq rfl)
 ·exact h
theorem Ku{v:ar}(r:RQ [] v)(t:Int)(name:ByteArray)(args:List an):RQ [] (kY v t name args).1:=by
 unfold kY;split
 ·rename_i hg;obtain⟨g1,_,_,_,g5⟩:=vU hg;have e1:dv v jF=pS v:=by rw[dv,if_neg (by omega)];rfl
  have r1:=r.fresh (x:=jF) rfl (fun h=>by rcases h.2 with g|g<;>cases g) g5 (s:=sG v t name args) rfl;rw[e1]at r1;refine mq _ _ _ _ ?_;have hl:bB t (pS v).entities.length=true:=by rw[pS,Aag];exact BQ g1
  unfold jm;exact r1.same hl (by rw[qR g1];rfl) (by rw[qR g1];rfl) (by rw[qR g1];rfl)
 ·exact r
theorem RQ.none{v:ar}(h:∀e∈v.entities,e.queue=[]):RQ [] v:=by
 have c:∀r,BW v r=0:=fun r=>by
  unfold BW;have:v.entities.map (Dx r)=v.entities.map fun _=>0:=List.map_congr_left fun e he=>by rw[Dx,h e he];rfl
  rw[this,List.map_const',List.sum_replicate_nat];rfl
 exact⟨fun r=>by rw[c];exact Nat.zero_le _,fun r hr=>by rw[c,yA]at hr;omega⟩
structure DI (k:Nat) (v:ar):Prop where
 vi:VI v
 w:wV v+4*k≤40
 kd:KI v
 ne:0<v.entities.length
 lb:∃K,K+4*k≤49∧LB K 0 v
 rq:RQ [] v
 nn:NN v
theorem DI.vD{k:Nat}{v:ar}(d:DI (k+1) v):DI k v:=⟨d.vi,by have:=d.w;omega,d.kd,d.ne,by obtain⟨K,h1,h2⟩:=d.lb;exact⟨K,by omega,h2⟩,d.rq,d.nn⟩
theorem DI.res{k:Nat}{v:ar}(d:DI (k+1) v)(p:Int)(x:an):DI k (dD (aT (mJ v+1)) v p x):=by
 obtain⟨r1,r2,r3,r4⟩:=Eg (gr (mJ v+1)) v p x;exact⟨r4 d.vi,by have:=d.w;omega,by unfold KI;rw[xu (mD _)];exact d.kd,by rw[r1];exact d.ne,by
  obtain⟨K,h1,h2⟩:=d.lb;exact⟨K,by omega,(rk (mJ v+1)).res (by omega) v p x h2⟩,(mq _).dD d.rq p x,(uT _).dD d.nn p x⟩
theorem DI.send{k:Nat}{v:ar}(d:DI (k+1) v)(t:Int)(name:ByteArray)(args:List an):DI k (kY v t name args).1:=by
 obtain⟨r1,r2⟩:=MV v t name args;refine⟨r2 d.vi,by have:=d.w;omega,F5 v t name args d.kd,?_,?_,Ku d.rq t name args,LW d.nn t name args⟩;rotate_left
 ·obtain⟨K,h1,h2⟩:=d.lb;unfold kY;split
  ·rename_i hg;obtain⟨g1,_,g3,_⟩:=vU hg;refine⟨K+4,by omega,rk (mJ (jm v t)+1) (K+4) 0 (jm v t) (sG v t name args) (by omega) ?_⟩;have n0:LB K 0 (pS v):=by
    obtain⟨N,p1,p2,p3⟩:=h2;have e:wE (pS v)=wE v:=by simp[wE,pS,oq,jF,sM]
    exact⟨N,p1,by rw[e];exact p2,p3⟩
   have n1:LB K 0 (jm v t):=n0.cT (by rw[pS,Aag];exact BQ g1) _ (by rw[qR g1];exact Aas _);have:(sG v t name args).args=args:=rfl;rw[this];exact(LB.more (c:=4) n1).mono (by omega)
  ·exact⟨K,by omega,h2⟩
 unfold kY;split
 ·rename_i hg;have:=Jb (mD (mJ (jm v t)+1) (jm v t) (sG v t name args));show 0<(aT (mJ (jm v t)+1) (jm v t) (sG v t name args)).entities.length
  rw[this,jm,js,pS,Aag];have:=d.ne;omega
 ·exact d.ne
set_option maxHeartbeats 8000000 in
set_option maxRecDepth 100000 in
theorem Yk(h:AH){b:Nat}{bs:List Int}(hb:bs.length≤1073741824)(hc:w9 h b bs):T pQ Γ Fn.kcL [.gp b 0 0] h fun r H'=>∃v wE w2 wL w4 f,r=.agg [.int .i64 v.id,wE,w2,wL,w4]∧DI 0 v∧VC h H' b bs v wE w2 wL w4 f:=by
 have hbl:b<h.length:=by obtain⟨_,_,_,hg⟩:=hc;exact eS hg
 refine WM (aC aG mixed [] _ _ _ ?_);unfold P5;simp only[au,Aaa,Aab,oH,iA,iu,fo,fB,bN];refine zrq (kcy_T h hb hc) ?_;rintro _ H1 ⟨v0,wE,w2,wL,w4,f,rfl,ds,x1⟩;replace x1:VC h H1 b bs v0 wE w2 wL w4 f:=x1;obtain⟨⟨a1,a2,a3,a4⟩,⟨b1,b2,b3,b4⟩,⟨c1,c2,c3,c4⟩,⟨d1,d2,d3,d4⟩,lE⟩:=x1.cell;have di0:DI 6 v0:=⟨ds.vi,by have:=ds.w;omega,.of ds.kd,ds.ne,⟨25,by omega,13,fun l hl=>(ds.li l hl).mono (by omega),by have:=ds.w;have:=wE_le v0;omega,ds.lk⟩,.none ds.nq,ds.nn⟩
 simp only[au,Aaa,Aab,oH,iA,iu,fo,fB,bN,a1,a2,a3,b1,b2,b3,c1,c2,c3,d1,d2,d3];refine zrq (bt _ hb x1.dr.cur _) ?_;rintro _ H2 ⟨td,rfl,cnt0,cnt1,q2⟩;replace q2:aP H1 H2 b bs:=q2;have x2:=x1.draw q2;replace cnt1:=cnt1 (by omega);obtain⟨k0,rfl⟩:∃k0:Nat,td=k0:=⟨td.toNat,by omega⟩
 have di1:DI k0 v0:=⟨di0.vi,by have:=di0.w;omega,di0.kd,di0.ne,by obtain⟨K,h1,h2⟩:=di0.lb;exact⟨K,by omega,h2⟩,di0.rq,di0.nn⟩
 simp only[au,Aaa,Aab,oH,iA,iu,fo,fB,bN];refine fD aG mixed [] (fun x:Nat×ar×AV×AV×AV×AV×List Nat×AH=>x.1≤6∧DI x.1 x.2.1∧VC h x.2.2.2.2.2.2.2 b bs x.2.1 x.2.2.1 x.2.2.2.1 x.2.2.2.2.1 x.2.2.2.2.2.1 x.2.2.2.2.2.2.1) (fun x=>x.1)
  (fun x=>GN (.gp b 0 0) (.lp ([]:List (List AV)).length 0) (.lp (([]:List (List AV)).length+1) 0) (.int .i64 x.1) (LL z5 [.int .i64 x.2.1.id,x.2.2.1,x.2.2.2.1,x.2.2.2.2.1,x.2.2.2.2.2.1] []) x.2.2.2.2.2.2.2) (k0,v0,wE,w2,wL,w4,_,H2) ⟨by simp only;omega,di1,x2⟩ ⟨by simp[GN,gW,gM],rfl,rfl⟩ ?_
 rintro⟨k,v,wE,w2,wL,w4,f,Hi⟩ ⟨hk,ds,xi⟩;simp only at hk ds xi;obtain⟨⟨a1,a2,a3,a4⟩,⟨b1,b2,b3,b4⟩,⟨c1,c2,c3,c4⟩,⟨d1,d2,d3,d4⟩,lE⟩:=xi.cell;simp only[au,Aaa,Aab,oH,iA,iu,fo,fB,GN,bN];refine bz (fun hgt=>?_) (fun hge=>?_);rotate_left
 ·have hge:k=0:=by simp at hge;omega
  subst hge;have st0:∀(e:List AV) (h:AH),(St.mk e (LL z5 [.int .i64 v.id,wE,w2,wL,w4] []) h).store (.lp (([]:List (List AV)).length) 0) [.int .i64 v.id,wE,w2,wL,w4]=some ⟨e,LL [.int .i64 v.id,wE,w2,wL,w4] [.int .i64 v.id,wE,w2,wL,w4] [],h⟩:=fun e h=>BJ (by simp) (by simp only[Aaj,Aak,a2,b2,c2,d2];rfl);simp only[au,Aaa,Aab,oH,iA,iu,fo,fB,bN,gj,cg,a1,a2,a3,b1,b2,b3,c1,c2,c3,d1,d2,d3,st0];exact⟨by simp only[cY,EO,a3,a4,b3,b4,c3,c4,d3,d4],v,wE,w2,wL,w4,f,rfl,ds,xi⟩
 have hgt:0<k:=by simp at hgt;omega
 obtain⟨m,rfl⟩:∃m,k=m+1:=⟨k-1,by omega⟩
 simp only[au,Aaa,Aab,oH,iA,iu,fo,fB,bN];refine zrq (bt _ hb (xi.ext (cQ.app Hi _)).dr.cur _) ?_;rintro _ H1' ⟨n,rfl,n0,n1,q1'⟩;replace q1':aP (Hi++[some (0,[])]) H1' b bs:=q1';have x1':=(xi.ext (cQ.app Hi _)).draw q1';replace n1:=n1 (by omega);obtain⟨n',rfl⟩:∃n':Nat,n=n':=⟨n.toNat,by omega⟩
 have hiL:=xi.dr.len;have oA0:b9 H1' (.gs Hi.length 0 0 0 0 2 true) (.sl 2 (([]:List an).map an.cd)) [Hi.length]:=q1'.own (gn Hi 2) (by simp only[Aaf];omega);simp only[au,Aaa,Aab,oH,iA,iu,fo,fB,bN];have hfb:∀c∈f,c<Hi.length:=xi.own.lt;refine fD aG mixed [] (fun x:Nat×AV×AH×List Nat×List an=>x.1≤2∧x.2.2.2.2.length+x.1≤2∧b9 x.2.2.1 x.2.1 (.sl 2 (x.2.2.2.2.map an.cd)) x.2.2.2.1∧x.2.2.2.1.Nodup∧(∀c∈x.2.2.2.1,h.length≤c∧c∉f)∧VC h x.2.2.1 b bs v wE w2 wL w4 f) (fun x=>x.1)
  (fun x=>GL (.gp b 0 0) (.lp ([]:List (List AV)).length 0) (.lp (([]:List (List AV)).length+1) 0) (.int .i64 ((m+1:Nat):Int)) x.2.1 (.int .i64 x.1) (LL z5 [.int .i64 v.id,wE,w2,wL,w4] []) x.2.2.1) (n',.gs Hi.length 0 0 0 0 2 true,H1',[Hi.length],[]) ⟨by simp only;omega,by simp only[Aaq];omega,oA0,by simp,fun c hc=>by
   rw[Aaf.1 hc];exact⟨by omega,fun g=>Aai _ (hfb _ g)⟩,x1'⟩ ⟨by simp[GL,gW,gM],rfl,rfl⟩ ?_
 clear x1' oA0 q1' n1;rintro⟨k2,w5,Hj,f5,args⟩ ⟨hk2,hal,oA,nA,bA,xj⟩;simp only at hk2 hal oA nA bA xj;obtain⟨e1,e2,e3,e4⟩:=oA.cell;simp only[au,Aaa,Aab,oH,iA,iu,fo,fB,GL,bN];refine bz (fun hgt2=>?_) (fun hge2=>?_)
 ·have hgt2:0<k2:=by simp at hgt2;omega
  obtain⟨m2,rfl⟩:∃m2,k2=m2+1:=⟨k2-1,by omega⟩
  simp only[au,Aaa,Aab,oH,iA,iu,fo,fB,bN,gj,cg,a1,a2,a3,b1,b2,b3,c1,c2,c3,d1,d2,d3,lE];refine al.ref (by simp only[EO,a3,b3,c3,d3]) (QI Hj hb xj.dr.cur xj.own ds.ne (by have:=ds.vi.fH;omega)) ?_;rintro _ H3 ⟨z,rfl,_,q3⟩;replace q3:aP Hj H3 b bs:=q3;have x3:=xj.draw q3;have oA3:=q3.own oA (fun g=>by have:=(bA b g).1;omega);obtain⟨v',H4,fp',ea,o',nd',hf',hl',hm'⟩:=df (bytes:=16) oA3 (ys:=[.int .i64 z.kind,.int .i64 z.n]) (row:=z.cd) (f2:=[]) (by simpa using nA) (by omega) rfl (.i (.i .nil)) (by simp only[Aao,aU];omega);obtain⟨p1,p2,p3,p4⟩:=o'.cell;simp only[au,Aaa,Aab,oH,iA,iu,fo,fB,bN,an.c,e1,e2,e3,ea,p1,p2,p3];have x4:=x3.frame hbl hl' hf' (fun c hc=>bA c hc);have l3:=q3.len;have hjL:=xj.dr.len;have hfj:∀c∈f,c<Hj.length:=xj.own.lt;exact⟨(m2,v',H4,fp',args++[z]),⟨by simp only;omega,by simp only[Aag,List.length_cons,Aaq];omega,by simpa using o',nd',fun c hc=>by
   rcases hm' c hc with g|g|g
   ·exact bA c g
   ·cases g
   ·exact⟨by omega,fun q=>by have:=hfj c q;omega⟩,x4⟩,by simp only;omega,⟨by rw[Jr (by omega)];simp[gW,gM],rfl,rfl⟩⟩
 have hge2:k2=0:=by simp at hge2;omega
 subst hge2;simp only[au,Aaa,Aab,oH,iA,iu,fo,fB,bN,gj,cg,a1,a2,a3,b1,b2,b3,c1,c2,c3,d1,d2,d3,lE];refine zrq (bt _ hb xj.dr.cur _) ?_;rintro _ H3 ⟨n3,rfl,_,_,q3⟩;replace q3:aP Hj H3 b bs:=q3;have x3:=xj.draw q3;have oA3:=q3.own oA (fun g=>by have:=(bA b g).1;omega);have wv:=ds.w;by_cases n_0:n3=0
 ·simp only[au,Aaa,Aab,oH,iA,iu,fo,fB,bN,gj,cg,a1,a2,a3,b1,b2,b3,c1,c2,c3,d1,d2,d3,lE,ae,aR n_0];refine zrq (bt _ hb x3.dr.cur _) ?_;rintro _ H4 ⟨pp,rfl,_,_,q4⟩;replace q4:aP H3 H4 b bs:=q4;have x4:=x3.draw q4;simp only[au,Aaa,Aab,oH,iA,iu,fo,fB,bN,gj,cg,a1,a2,a3,b1,b2,b3,c1,c2,c3,d1,d2,d3,lE];try refine⟨fun r hr n cs hc=>by rw[show r=3 by simpa using hr]at hc ⊢;exact hc,?_⟩
  refine al.ref (by simp only[EO,a3,b3,c3,d3]) (QI H4 hb x4.dr.cur x4.own ds.ne (by have:=ds.vi.fH;omega)) ?_;rintro _ H5 ⟨z,rfl,_,q5⟩;replace q5:aP H4 H5 b bs:=q5;have x5:=x4.draw q5;simp only[au,Aaa,Aab,oH,iA,iu,fo,fB,bN,gj,cg,a1,a2,a3,b1,b2,b3,c1,c2,c3,d1,d2,d3,lE];try refine⟨fun r hr n cs hc=>by rw[show r=3 by simpa using hr]at hc ⊢;exact hc,?_⟩
  refine al.own (by simp only[EO,a3,b3,c3,d3,an.c]) (aI (aM.fk (ar.bO true v) x5.own) (aI (.same _) (aI (.same _) aZ))) (ZF true false v pp z ds.vi (by omega)) ?_;rintro _ H6 fr;replace fr:aX H5 _ _ _:=fr;obtain⟨ac,f',rfl,o',n',b',eg⟩:=fr.a1;obtain⟨wE',w2',wL',w4',_,_,_,_,rfl,_,_⟩:=kJ o';have lh:=x5.dr.len;have xx:VC h H6 b bs (dD (aT (mJ v+1)) v pp z) wE' w2' wL' w4' f':=⟨o',n',fun c hc=>by have:=b' c hc;exact⟨by omega,by omega⟩,x5.dr.trans (.pE x5.dr.cur eg)⟩
  obtain⟨⟨aa1,aa2,aa3,aa4⟩,⟨bb1,bb2,bb3,bb4⟩,⟨cc1,cc2,cc3,cc4⟩,⟨dd1,dd2,dd3,dd4⟩,_⟩:=xx.cell;have s5:=fun e h=>KN (e:=e) (h:=h) (id:=v.id) (i':=(dD (aT (mJ v+1)) v pp z).id) (a:=wE) (b:=w2) (c:=wL) (d:=w4) (X:=[]) aa2 bb2 cc2 dd2;simp only[au,Aaa,Aab,oH,iA,iu,fo,fB,bN,gj,cg,a1,a2,a3,b1,b2,b3,c1,c2,c3,d1,d2,d3,lE,aa1,aa2,aa3,bb1,bb2,bb3,cc1,cc2,cc3,dd1,dd2,dd3,s5];exact⟨(m,dD (aT (mJ v+1)) v pp z,wE',w2',wL',w4',f',H6),⟨by simp only;omega,ds.res pp z,xx⟩,by simp only;omega,⟨by rw[Jr (by omega)];simp[gW,gM],rfl,rfl⟩⟩
 ·simp only[au,Aaa,Aab,oH,iA,iu,fo,fB,bN,gj,cg,a1,a2,a3,b1,b2,b3,c1,c2,c3,d1,d2,d3,lE,ae,aW n_0];refine zrq (bt _ hb x3.dr.cur _) ?_;rintro _ H4 ⟨pp,rfl,_,_,q4⟩;replace q4:aP H3 H4 b bs:=q4;have x4:=x3.draw q4;have oA4:=q4.own oA3 (fun g=>by have:=(bA b g).1;omega);simp only[au,Aaa,Aab,oH,iA,iu,fo,fB,bN,gj,cg,a1,a2,a3,b1,b2,b3,c1,c2,c3,d1,d2,d3,lE];try refine⟨fun r hr n cs hc=>by rw[show r=3 by simpa using hr]at hc ⊢;exact hc,?_⟩
  refine zrq (Lm H4 hb x4.dr.cur) ?_;rintro _ H5 ⟨nm,rfl,hnm,q5⟩;replace q5:aP H4 H5 b bs:=q5;have x5:=x4.draw q5;have oA5:=q5.own oA4 (fun g=>by have:=(bA b g).1;omega);simp only[au,Aaa,Aab,oH,iA,iu,fo,fB,bN,gj,cg,a1,a2,a3,b1,b2,b3,c1,c2,c3,d1,d2,d3,lE];try refine⟨fun r hr n cs hc=>by rw[show r=3 by simpa using hr]at hc ⊢;exact hc,?_⟩
  refine al.own (by simp only[EO,a3,b3,c3,d3,e3,e4]) (aI (aM.fk (ar.bO true v) x5.own) (aI (.same _) (aI (.same _) (aI (b9.fk (an.bO true) oA5) aZ)))) (XP true true v pp nm args ds.vi (by omega) (by omega) (by omega)) ?_;rintro _ H6 fr;replace fr:aX H5 _ _ _:=fr;obtain⟨ac,f',rfl,o',n',b',eg⟩:=fr.a2 rfl;obtain⟨wE',w2',wL',w4',_,_,_,_,rfl,_,_⟩:=kJ o';have lh:=x5.dr.len;have xx:VC h H6 b bs (kY v pp nm args).1 wE' w2' wL' w4' f':=⟨o',n',fun c hc=>by have:=b' c hc;exact⟨by omega,by omega⟩,x5.dr.trans (.pE x5.dr.cur eg)⟩
  obtain⟨⟨aa1,aa2,aa3,aa4⟩,⟨bb1,bb2,bb3,bb4⟩,⟨cc1,cc2,cc3,cc4⟩,⟨dd1,dd2,dd3,dd4⟩,_⟩:=xx.cell;have s5:=fun e h=>KN (e:=e) (h:=h) (id:=v.id) (i':=(kY v pp nm args).1.id) (a:=wE) (b:=w2) (c:=wL) (d:=w4) (X:=[]) aa2 bb2 cc2 dd2;simp only[au,Aaa,Aab,oH,iA,iu,fo,fB,bN,gj,cg,a1,a2,a3,b1,b2,b3,c1,c2,c3,d1,d2,d3,lE,aa1,aa2,aa3,bb1,bb2,bb3,cc1,cc2,cc3,dd1,dd2,dd3,s5];exact⟨(m,(kY v pp nm args).1,wE',w2',wL',w4',f',H6),⟨by simp only;omega,ds.send pp nm args,xx⟩,by simp only;omega,⟨by rw[Jr (by omega)];simp[gW,gM],rfl,rfl⟩⟩
end Go.Proofs.YtolciaflplefcaaGreat
