import Derived.Test.YtolciaflplefcaaGreatR6G20
import Derived.Test.YtolciaflplefcaaGreatR6G28
import Derived.Test.YtolciaflplefcaaGreatAmG10
import Derived.Test.YtolciaflplefcaaGreatAmG9
import Derived.Test.YtolciaflplefcaaGreatR6G23
set_option linter.unusedVariables false
set_option linter.unusedSimpArgs false
open Go.Proofs.Tryz renaming prog→pQ
open Nat renaming reduceAdd→Aaa,reduceBEq→Aab,zero_le→Aah
open List renaming all_cons→Aac,all_nil→Aad,mem_singleton→Aae,not_mem_nil→Aaf,mem_cons→Aag
namespace Go.Proofs.YtolciaflplefcaaGreat
open Go.AM
variable {Γ:bG}
theorem GI.of{v:ar}(d:DI 0 v):GI 49 v:=by
 obtain⟨K,h1,N,p1,p2,p3⟩:=d.lb;exact⟨d.vi,by have:=d.w;omega,⟨N,p1,by omega,p3⟩,d.ne⟩
theorem GI.aq{K:Nat}{v:ar}(g:GI K v):v.aq.length=2:=by
 obtain⟨N,_,_,h⟩:=g.lb;exact h
theorem GX.of{v:ar}(d:DI 0 v):GX 49 v:=gx_mk (GI.of d) d.rq d.kd d.nn
theorem UN{K:Nat}(β β':Bool)(v:ar)(g:GX K v)(hK:K+10≤100)(peer:Int)(m:ah)(hm:m.args.length≤4)(hn:m.name.size≤100)(h:AH):
 T pQ Γ Fn.kcg [.agg (v.c β),.int .i64 peer,.agg (m.c β')] h (fun r h'=>∃v',GX (K+10) v'∧aX h [.a v'.cd] r h'):=
 (V4 β β' v g.gi hK peer m hm hn h).mono fun _ _ f=>⟨_,g.call hK peer m hm hn,f⟩
theorem UB{K:Nat}(β β':Bool)(v:ar)(g:GX K v)(hK:K+10≤100)(peer:Int)(m:ah)(hm:m.args.length≤4)(hn:m.name.size≤100)(hk:m.kind=2∨m.kind=4)(h:AH):
 T pQ Γ Fn.kcf [.agg (v.c β),.int .i64 peer,.agg (m.c β')] h (fun r h'=>∃v',GX (K+1) v'∧aX h [.a v'.cd] r h'):=by
 refine(RM β β' v g.gi hK peer m hm hn h).mono fun _ _ f=>⟨_,?_,f⟩
 unfold kq;rcases hk with e|e
 ·rw[if_neg (by omega),if_pos e];exact g.ret (by omega) peer m
 ·rw[if_neg (by omega),if_neg (by omega),if_pos e];exact g.T6 (by omega) peer m
set_option maxHeartbeats 8000000 in
set_option maxRecDepth 100000 in
theorem Sz(h:AH){b:Nat}{bs:List Int}(hb:bs.length≤1073741824)(hc:w9 h b bs):T pQ Γ Fn.kcQ [.gp b 0 0] h fun r H'=>∃v wE w2 wL w4 f,r=.agg [.int .i64 v.id,wE,w2,wL,w4]∧GX 79 v∧VC h H' b bs v wE w2 wL w4 f:=by
 have hbl:b<h.length:=by obtain⟨_,_,_,hg⟩:=hc;exact eS hg
 refine WX (aC aG mixed [] _ _ _ ?_);unfold Nv;simp only[au,Aaa,Aab,yV,bN];refine zrq (Yk h hb hc) ?_;rintro _ H1 ⟨v0,wE,w2,wL,w4,f,rfl,ds,x1⟩;replace x1:VC h H1 b bs v0 wE w2 wL w4 f:=x1;obtain⟨⟨a1,a2,a3,a4⟩,⟨b1,b2,b3,b4⟩,⟨c1,c2,c3,c4⟩,⟨d1,d2,d3,d4⟩,lE⟩:=x1.cell;have g0:=GX.of ds;simp only[au,Aaa,Aab,yV,bN,a1,a2,a3,b1,b2,b3,c1,c2,c3,d1,d2,d3];refine zrq (bt _ hb x1.dr.cur _) ?_;rintro _ H2 ⟨td,rfl,cnt0,cnt1,q2⟩;replace q2:aP H1 H2 b bs:=q2;have x2:=x1.draw q2;replace cnt1:=cnt1 (by omega);obtain⟨k0,rfl⟩:∃k0:Nat,td=k0:=⟨td.toNat,by omega⟩
 simp only[au,Aaa,Aab,yV,bN];refine fD aG mixed [] (fun x:Nat×ar×AV×AV×AV×AV×List Nat×AH×List (List AV)=>x.1≤3∧GX (79-10*x.1) x.2.1∧VC h x.2.2.2.2.2.2.2.1 b bs x.2.1 x.2.2.1 x.2.2.2.1 x.2.2.2.2.1 x.2.2.2.2.2.1 x.2.2.2.2.2.2.1) (fun x=>x.1)
  (fun x=>GR (.gp b 0 0) (.lp ([]:List (List AV)).length 0) (.lp (([]:List (List AV)).length+1) 0) (.int .i64 x.1) (LL z5 [.int .i64 x.2.1.id,x.2.2.1,x.2.2.2.1,x.2.2.2.2.1,x.2.2.2.2.2.1] x.2.2.2.2.2.2.2.2) x.2.2.2.2.2.2.2.1) (k0,v0,wE,w2,wL,w4,_,H2,[]) ⟨by simp only;omega,g0.mono (by simp only;omega),x2⟩ ⟨by simp[GR,gW,gM],rfl,rfl⟩ ?_
 clear a1 a2 a3 a4 b1 b2 b3 b4 c1 c2 c3 c4 d1 d2 d3 d4 lE x1 x2;rintro⟨k,v,wE,w2,wL,w4,f,Hi,M⟩ ⟨hk,g,xi⟩;simp only at hk g xi;obtain⟨⟨a1,a2,a3,a4⟩,⟨b1,b2,b3,b4⟩,⟨c1,c2,c3,c4⟩,⟨d1,d2,d3,d4⟩,lE⟩:=xi.cell;simp only[au,Aaa,Aab,yV,GR,bN];refine bz (fun hgt=>?_) (fun hge=>?_);rotate_left
 ·have hge:k=0:=by simp at hge;omega
  subst hge;have st0:∀(e:List AV) (h:AH),(St.mk e (LL z5 [.int .i64 v.id,wE,w2,wL,w4] M) h).store (.lp (([]:List (List AV)).length) 0) [.int .i64 v.id,wE,w2,wL,w4]=some ⟨e,LL [.int .i64 v.id,wE,w2,wL,w4] [.int .i64 v.id,wE,w2,wL,w4] M,h⟩:=fun e h=>BJ (by simp) (by simp only[Aac,Aad,a2,b2,c2,d2];rfl);simp only[au,Aaa,Aab,yV,bN,gj,cg,a1,a2,a3,b1,b2,b3,c1,c2,c3,d1,d2,d3,st0];exact⟨by simp only[cY,EO,a3,a4,b3,b4,c3,c4,d3,d4],v,wE,w2,wL,w4,f,rfl,g,xi⟩
 have hgt:0<k:=by simp at hgt;omega
 obtain⟨m1,rfl⟩:∃m1,k=m1+1:=⟨k-1,by omega⟩
 simp only[au,Aaa,Aab,yV,bN,gj,cg,fY,a1,a2,a3,b1,b2,b3,c1,c2,c3,d1,d2,d3];refine al.ref (by simp only[EO,a3,a4,b3,b4,c3,c4,d3,d4]) (Sk Hi hb xi.dr.cur v.id wE w2 wL w4 a1 a2 b1 b2 c1 c2 d1 d2) ?_;rintro _ Hj ⟨fm,_,rfl,m,w,fp,rfl,ow,nw,bw,ha,hn,q⟩;replace q:aP Hi Hj b bs:=q;replace ow:b9 Hj w _ fp:=ow;have x3:=xi.draw q;obtain⟨w1,w2',w3,w4'⟩:=ow.cell;have sx:∀(e:List AV) (h:AH),(St.mk e (LL z5 [.int .i64 v.id,wE,w2,wL,w4] M++[Cq]) h).store (.lp (M.length+2) 0) (cS m w)=some ⟨e,LL z5 [.int .i64 v.id,wE,w2,wL,w4] M++[cS m w],h⟩:=fun e h=>by
  have:=uP (e:=e) (h:=h) (c0:=z5) (row:=[.int .i64 v.id,wE,w2,wL,w4]) (X:=M) (Y:=[]) (z:=Cq) (off:=0) (vs:=cS m w) (by simp[cS]) (by simp only[cS,Aac,Aad,w2'];rfl);rw[xX (by simp[cS])]at this;exact this
 have rx:=fun e h off n=>kD (e:=e) (h:=h) (c0:=z5) (row:=[.int .i64 v.id,wE,w2,wL,w4]) (X:=M) (Y:=[]) (cS m w) off n;simp only[cS]at sx rx;simp only[au,Aaa,Aab,yV,bN,gj,cg,Lw,gz,fY,a1,a2,a3,b1,b2,b3,c1,c2,c3,d1,d2,d3,cS,w1,w2',w3,sx,rx];refine al.Ys (by simp only[EO,a3,b3,c3,d3,w3,w4',a4,b4,c4,d4]) (aI (aM.fk (ar.bO true v) x3.own) (aI (.same _) (aI (aM.fk (ah.bO true m) (xO ow)) aZ))) (UN true true v g (by omega) fm m (by omega) hn) ?_;rintro v' g' _ H6 fr;replace fr:aX Hj _ _ _:=fr;obtain⟨ac,f',rfl,o',n',b',eg⟩:=fr.a1;obtain⟨wE',y2',wL',y4',_,_,_,_,rfl,_,_⟩:=kJ o';have lh:=x3.dr.len;have xx:VC h H6 b bs v' wE' y2' wL' y4' f':=⟨o',n',fun c hc=>by have:=b' c hc;exact⟨by omega,by omega⟩,x3.dr.trans (.pE x3.dr.cur eg)⟩
 obtain⟨⟨aa1,aa2,aa3,aa4⟩,⟨bb1,bb2,bb3,bb4⟩,⟨cc1,cc2,cc3,cc4⟩,⟨dd1,dd2,dd3,dd4⟩,_⟩:=xx.cell;have s5:=fun e h=>Ge (e:=e) (h:=h) (id:=v.id) (i':=v'.id) (a:=wE) (b:=w2) (c:=wL) (d:=w4) (X:=M) (Y:=[cS m w]) aa2 bb2 cc2 dd2;simp only[cS]at s5;simp only[au,Aaa,Aab,yV,bN,gj,cg,a1,a2,a3,b1,b2,b3,c1,c2,c3,d1,d2,d3,aa1,aa2,aa3,bb1,bb2,bb3,cc1,cc2,cc3,dd1,dd2,dd3,s5];exact⟨(m1,v',wE',y2',wL',y4',f',H6,M++[cS m w]),⟨by simp only;omega,g'.mono (by simp only;omega),xx⟩,by simp only;omega,⟨by rw[Jr (by omega)];simp[gW,gM],rfl,rfl⟩⟩
set_option maxHeartbeats 8000000 in
set_option maxRecDepth 100000 in
theorem PF(h:AH){b:Nat}{bs:List Int}(hb:bs.length≤1073741824)(hc:w9 h b bs):T pQ Γ Fn.kcY [.gp b 0 0] h fun r H'=>∃v wE w2 wL w4 f,r=.agg [.int .i64 v.id,wE,w2,wL,w4]∧GX 82 v∧VC h H' b bs v wE w2 wL w4 f:=by
 have hbl:b<h.length:=by obtain⟨_,_,_,hg⟩:=hc;exact eS hg
 refine YM (aC aG mixed [] _ _ _ ?_);unfold RW;simp only[au,Aaa,Aab,yO,bN];refine zrq (Sz h hb hc) ?_;rintro _ H1 ⟨v0,wE,w2,wL,w4,f,rfl,ds,x1⟩;replace x1:VC h H1 b bs v0 wE w2 wL w4 f:=x1;obtain⟨⟨a1,a2,a3,a4⟩,⟨b1,b2,b3,b4⟩,⟨c1,c2,c3,c4⟩,⟨d1,d2,d3,d4⟩,lE⟩:=x1.cell;have g0:=ds;simp only[au,Aaa,Aab,yO,bN,a1,a2,a3,b1,b2,b3,c1,c2,c3,d1,d2,d3];refine zrq (bt _ hb x1.dr.cur _) ?_;rintro _ H2 ⟨td,rfl,cnt0,cnt1,q2⟩;replace q2:aP H1 H2 b bs:=q2;have x2:=x1.draw q2;replace cnt1:=cnt1 (by omega);obtain⟨k0,rfl⟩:∃k0:Nat,td=k0:=⟨td.toNat,by omega⟩
 simp only[au,Aaa,Aab,yO,bN];refine fD aG mixed [] (fun x:Nat×ar×AV×AV×AV×AV×List Nat×AH×List (List AV)=>x.1≤3∧GX (82-1*x.1) x.2.1∧VC h x.2.2.2.2.2.2.2.1 b bs x.2.1 x.2.2.1 x.2.2.2.1 x.2.2.2.2.1 x.2.2.2.2.2.1 x.2.2.2.2.2.2.1) (fun x=>x.1)
  (fun x=>G0 (.gp b 0 0) (.lp ([]:List (List AV)).length 0) (.lp (([]:List (List AV)).length+1) 0) (.int .i64 x.1) (LL z5 [.int .i64 x.2.1.id,x.2.2.1,x.2.2.2.1,x.2.2.2.2.1,x.2.2.2.2.2.1] x.2.2.2.2.2.2.2.2) x.2.2.2.2.2.2.2.1) (k0,v0,wE,w2,wL,w4,_,H2,[]) ⟨by simp only;omega,g0.mono (by simp only;omega),x2⟩ ⟨by simp[G0,gW,gM],rfl,rfl⟩ ?_
 clear a1 a2 a3 a4 b1 b2 b3 b4 c1 c2 c3 c4 d1 d2 d3 d4 lE x1 x2;rintro⟨k,v,wE,w2,wL,w4,f,Hi,M⟩ ⟨hk,g,xi⟩;simp only at hk g xi;obtain⟨⟨a1,a2,a3,a4⟩,⟨b1,b2,b3,b4⟩,⟨c1,c2,c3,c4⟩,⟨d1,d2,d3,d4⟩,lE⟩:=xi.cell;simp only[au,Aaa,Aab,yO,G0,bN];refine bz (fun hgt=>?_) (fun hge=>?_);rotate_left
 ·have hge:k=0:=by simp at hge;omega
  subst hge;have st0:∀(e:List AV) (h:AH),(St.mk e (LL z5 [.int .i64 v.id,wE,w2,wL,w4] M) h).store (.lp (([]:List (List AV)).length) 0) [.int .i64 v.id,wE,w2,wL,w4]=some ⟨e,LL [.int .i64 v.id,wE,w2,wL,w4] [.int .i64 v.id,wE,w2,wL,w4] M,h⟩:=fun e h=>BJ (by simp) (by simp only[Aac,Aad,a2,b2,c2,d2];rfl);simp only[au,Aaa,Aab,yO,bN,gj,cg,a1,a2,a3,b1,b2,b3,c1,c2,c3,d1,d2,d3,st0];exact⟨by simp only[cY,EO,a3,a4,b3,b4,c3,c4,d3,d4],v,wE,w2,wL,w4,f,rfl,g,xi⟩
 have hgt:0<k:=by simp at hgt;omega
 obtain⟨m1,rfl⟩:∃m1,k=m1+1:=⟨k-1,by omega⟩
 simp only[au,Aaa,Aab,yO,bN,gj,cg,fY,a1,a2,a3,b1,b2,b3,c1,c2,c3,d1,d2,d3];refine al.ref (by simp only[EO,a3,a4,b3,b4,c3,c4,d3,d4]) (PW Hi hb xi.dr.cur xi.own xi.nd (fun q=>(xi.bf b q).2 rfl) g.gi.aq (fun l hl=>(g.gi.vi.Cu.mono (show wV v+100≤1048576 by have:=g.gi.w;omega) l hl).2.1)) ?_;rintro _ Hj ⟨fm,m,rfl,ha,hn,hkd,q⟩;replace q:aP Hi Hj b bs:=q;have ow:b9 Hj .nils (.sl 2 (m.args.map aJ.cd)) []:=by rw[ha];exact .nil _
 have x3:=xi.draw q;obtain⟨w1,w2',w3,w4'⟩:=ow.cell;have sx:∀(e:List AV) (h:AH),(St.mk e (LL z5 [.int .i64 v.id,wE,w2,wL,w4] M++[Cq]) h).store (.lp (M.length+2) 0) (cS m .nils)=some ⟨e,LL z5 [.int .i64 v.id,wE,w2,wL,w4] M++[cS m .nils],h⟩:=fun e h=>by
  have:=uP (e:=e) (h:=h) (c0:=z5) (row:=[.int .i64 v.id,wE,w2,wL,w4]) (X:=M) (Y:=[]) (z:=Cq) (off:=0) (vs:=cS m .nils) (by simp[cS]) (by simp only[cS,Aac,Aad,w2'];rfl);rw[xX (by simp[cS])]at this;exact this
 have rx:=fun e h off n=>kD (e:=e) (h:=h) (c0:=z5) (row:=[.int .i64 v.id,wE,w2,wL,w4]) (X:=M) (Y:=[]) (cS m .nils) off n;simp only[cS]at sx rx;simp only[au,Aaa,Aab,yO,bN,gj,cg,Lw,gz,fY,a1,a2,a3,b1,b2,b3,c1,c2,c3,d1,d2,d3,cS,w1,w2',w3,sx,rx];refine al.Ys (by simp only[EO,a3,b3,c3,d3,w3,w4',a4,b4,c4,d4]) (aI (aM.fk (ar.bO true v) x3.own) (aI (.same _) (aI (aM.fk (ah.bO true m) (xO ow)) aZ))) (UB true true v g (by omega) fm m (by rw[ha];exact Aah _) hn hkd) ?_;rintro v' g' _ H6 fr;replace fr:aX Hj _ _ _:=fr;obtain⟨ac,f',rfl,o',n',b',eg⟩:=fr.a1;obtain⟨wE',y2',wL',y4',_,_,_,_,rfl,_,_⟩:=kJ o';have lh:=x3.dr.len;have xx:VC h H6 b bs v' wE' y2' wL' y4' f':=⟨o',n',fun c hc=>by have:=b' c hc;exact⟨by omega,by omega⟩,x3.dr.trans (.pE x3.dr.cur eg)⟩
 obtain⟨⟨aa1,aa2,aa3,aa4⟩,⟨bb1,bb2,bb3,bb4⟩,⟨cc1,cc2,cc3,cc4⟩,⟨dd1,dd2,dd3,dd4⟩,_⟩:=xx.cell;have s5:=fun e h=>Ge (e:=e) (h:=h) (id:=v.id) (i':=v'.id) (a:=wE) (b:=w2) (c:=wL) (d:=w4) (X:=M) (Y:=[cS m .nils]) aa2 bb2 cc2 dd2;simp only[cS]at s5;simp only[au,Aaa,Aab,yO,bN,gj,cg,a1,a2,a3,b1,b2,b3,c1,c2,c3,d1,d2,d3,aa1,aa2,aa3,bb1,bb2,bb3,cc1,cc2,cc3,dd1,dd2,dd3,s5];exact⟨(m1,v',wE',y2',wL',y4',f',H6,M++[cS m .nils]),⟨by simp only;omega,g'.mono (by simp only;omega),xx⟩,by simp only;omega,⟨by rw[Jr (by omega)];simp[gW,gM],rfl,rfl⟩⟩
theorem LY(z:AV):(List.replicate 6 [z]).flatten=[z,z,z,z,z,z]:=rfl
theorem TV(z:AV):(List.replicate 3 [z]).flatten=[z,z,z]:=rfl
theorem Ov(H:AH){b:Nat}{bs:List Int}(hb:bs.length≤1073741824)(hc:w9 H b bs):T pQ Γ Fn.kcC [.gp b 0 0] H fun v h'=>∃n,v=.int .i64 n∧aP H h' b bs:=by
 have hbl:b<H.length:=by obtain⟨_,_,_,hg⟩:=hc;exact eS hg
 refine Zv (aC aG mixed [] _ _ _ ?_);unfold QA;simp only[au,Aaa,Aab,Kn,bN,LY];have dA:aP H (H++[some (0,[AV.int .i64 2,.int .i64 3,.int .i64 2,.int .i64 3,.int .i64 2,.int .i64 4])]) b bs:=.pE hc (cQ.app _ _);refine zrq (At _ hb dA.cur (po H [2,3,2,3,2,4] rfl) (by simp only[Aae];omega) (by simp)) ?_;rintro _ H1 ⟨fr,rfl,q⟩;replace q:aP (H++[some (0,_)]) H1 b bs:=q;simp only[au,Aaa,Aab,Kn];first|exact⟨rfl,fr,rfl,dA.trans q⟩|exact⟨fr,rfl,dA.trans q⟩
set_option maxHeartbeats 4000000 in
set_option maxRecDepth 100000 in
theorem NR(H:AH){b:Nat}{bs:List Int}(hb:bs.length≤1073741824)(hc:w9 H b bs):T pQ Γ Fn.kcr [.gp b 0 0] H fun v h'=>∃y:aJ,v=.agg [.int .i64 y.kind,.int .i64 y.n]∧aP H h' b bs:=by
 have hbl:b<H.length:=by obtain⟨_,_,_,hg⟩:=hc;exact eS hg
 refine UE (aC aG mixed [] _ _ _ ?_);unfold Ps;simp only[au,Aaa,Aab,BD,bN,ae,ag,LY,Jn];refine zrq (uv _ hb hc _) ?_;rintro _ H0 ⟨on,rfl,q⟩;replace q:aP H H0 b bs:=q;have h0:=q.len;cases on
 ·simp only[au,Aaa,Aab,BD,bN,ae,ag,LY,Jn];refine zrq (B9 _ hb q.cur) ?_;rintro _ HW ⟨y,rfl,q2⟩;replace q2:aP H0 HW b bs:=q2;simp only[au,Aaa,Aab,BD,bN,ae,ag];first|exact⟨rfl,y,rfl,q.trans q2⟩|exact⟨y,rfl,q.trans q2⟩
 simp only[au,Aaa,Aab,BD,bN,ae,ag,LY,Jn];have dA:aP H0 (H0++[some (0,[AV.int .i64 (-1),.int .i64 0,.int .i64 1,.int .i64 2,.int .i64 3,.int .i64 4])]) b bs:=.pE q.cur (cQ.app _ _);refine zrq (At _ hb dA.cur (po H0 [-1,0,1,2,3,4] rfl) (by simp only[Aae];omega) (by simp)) ?_;rintro _ H1 ⟨k,rfl,q1⟩;replace q1:aP (H0++[some (0,_)]) H1 b bs:=q1;have q2:=q.trans (dA.trans q1);have h1:=q2.len;simp only[au,Aaa,Aab,BD,bN,ae,ag,LY,Jn];have dB:aP H1 (H1++[some (0,[AV.int .i64 (-1),.int .i64 0,.int .i64 1,.int .i64 999999,.int .i64 1000000])]) b bs:=.pE q2.cur (cQ.app _ _);refine zrq (At _ hb dB.cur (po H1 [-1,0,1,999999,1000000] rfl) (by simp only[Aae];omega) (by simp)) ?_;rintro _ H2 ⟨n,rfl,q3⟩;replace q3:aP (H1++[some (0,_)]) H2 b bs:=q3;simp only[au,Aaa,Aab,BD,bN,ae,ag];first|exact⟨rfl,⟨k,n⟩,rfl,q2.trans (dB.trans q3)⟩|exact⟨⟨k,n⟩,rfl,q2.trans (dB.trans q3)⟩
def T2(H:AH)(b:Nat)(bs:List Int)(row:List AV)(h':AH):Prop:=∃(m:ah) (w:AV) (fp:List Nat),row=cS m w∧b9 h' w (.sl 2 (m.args.map aJ.cd)) fp∧fp.Nodup∧(∀c∈fp,H.length≤c)∧m.args.length≤4∧m.name.size≤100∧aP H h' b bs
set_option maxHeartbeats 8000000 in
set_option maxRecDepth 100000 in
theorem Lq(H:AH){b:Nat}{bs:List Int}(hb:bs.length≤1073741824)(hc:w9 H b bs):T pQ Γ Fn.kcq [.gp b 0 0] H fun v h'=>∃row,v=.agg row∧T2 H b bs row h':=by
 have hbl:b<H.length:=by obtain⟨_,_,_,hg⟩:=hc;exact eS hg
 refine kcq_e (aC aG mixed [] _ _ _ ?_);unfold Qq;simp only[au,Aaa,Aab,pD,jn,fZ,bN,ae,ag];refine zrq (NC _ hb hc) ?_;rintro _ H1 ⟨_,rfl,m,w,fp,rfl,ow,nw,bw,ha,hn,q⟩;replace q:aP H H1 b bs:=q;replace ow:b9 H1 w _ fp:=ow;replace bw:∀c∈fp,H.length≤c:=bw;have e1:=q;clear q;obtain⟨w1,w2',w3,w4'⟩:=ow.cell;simp only[au,Aaa,Aab,pD,jn,fZ,bN,ae,ag,cS,w1,w2',w3];refine zrq (bt _ hb e1.cur _) ?_;rintro _ H2 ⟨x,rfl,_,_,q⟩;replace q:aP H1 H2 b bs:=q;have e2:=e1.trans q;have bfp:b∉fp:=fun g=>by have:=bw b g;omega
 have ow2:=q.own ow bfp;clear q;have h2:=e2.len;have FIN:∀(m':ah) (H':AH),m'.args=m.args→m'.name.size≤100→aP H2 H' b bs→∃row,(AV.agg (cS m' w))=.agg row∧T2 H b bs row H':=fun m' H' e1 e2' d=>⟨_,rfl,m',w,fp,rfl,by rw[e1];exact d.own ow2 bfp,nw,bw,by rw[e1];omega,e2',e2.trans d⟩
 have self:aP H2 H2 b bs:=⟨e2.cur,Nat.le_refl _,fun _ _ _=>rfl⟩
 by_cases k0:x=0
 ·simp only[au,Aaa,Aab,pD,jn,fZ,bN,ae,ag,w1,w2',w3,aR k0];refine zrq (bt _ hb e2.cur _) ?_;rintro _ H3 ⟨z,rfl,_,_,q⟩;replace q:aP H2 H3 b bs:=q;simp only[au,Aaa,Aab,pD,jn,fZ,bN,ae,ag,w1,w2',w3];have fin:=FIN { m with kind:=z } H3 rfl hn q;first|exact⟨rfl,fin⟩|exact fin|exact⟨by simp only[Aac,Aad,EO,w3,w4'],fin⟩|exact⟨by simp only[cY,Aac,Aad,EO,w3,w4'],fin⟩
 by_cases k1:x=1
 ·simp only[au,Aaa,Aab,pD,jn,fZ,bN,ae,ag,w1,w2',w3,aW k0,aR k1,rp_4];have dA:aP H2 (H2++[some (0,[AV.int .i64 (-1),.int .i64 0,.int .i64 1,.int .i64 1000000])]) b bs:=.pE e2.cur (cQ.app _ _);refine zrq (At _ hb dA.cur (po H2 [-1,0,1,1000000] rfl) (by simp only[Aae];omega) (by simp)) ?_;rintro _ H3 ⟨z,rfl,q⟩;replace q:aP (H2++[some (0,_)]) H3 b bs:=q;simp only[au,Aaa,Aab,pD,jn,fZ,bN,ae,ag,w1,w2',w3];have fin:=FIN { m with pos:=z } H3 rfl hn (dA.trans q);first|exact⟨rfl,fin⟩|exact fin|exact⟨by simp only[Aac,Aad,EO,w3,w4'],fin⟩|exact⟨by simp only[cY,Aac,Aad,EO,w3,w4'],fin⟩
 by_cases k2:x=2
 ·simp only[au,Aaa,Aab,pD,jn,fZ,bN,ae,ag,w1,w2',w3,aW k0,aW k1,aR k2];refine zrq (NR _ hb e2.cur) ?_;rintro _ H3 ⟨y,rfl,q⟩;replace q:aP H2 H3 b bs:=q;have ow3:=q.own ow2 bfp;have h3:=q.len;obtain⟨v',H4,fp',ea,o',nd',hf',hl',hm'⟩:=df (bytes:=16) ow3 (ys:=[.int .i64 y.kind,.int .i64 y.n]) (row:=y.cd) (f2:=[]) (by simpa using nw) (by omega) rfl (.i (.i .nil)) (by simp only[List.length_map,aU];omega);obtain⟨p1,p2,p3,p4⟩:=o'.cell;have d4:aP H H4 b bs:=by
   have d3:=e2.trans q;obtain⟨i,s,hi,hgt⟩:=d3.cur;refine⟨⟨i,s,hi,by rw[bc (hf' b bfp (by omega))];exact hgt⟩,by omega,fun c h1 h2=>?_⟩;rw[hf' c (fun g=>by have:=bw c g;omega) (by omega),d3.fr c h1 h2]
  simp only[au,Aaa,Aab,pD,jn,fZ,bN,ae,ag,w1,w2',w3,ea,p1,p2,p3];try refine⟨lG fun r hr=>by
   simp only[Aag,Aaf,or_false]at hr;subst hr;exact .inl ⟨_,_,rfl⟩,?_⟩
  have fin:∃row,(AV.agg (cS { m with args:=m.args++[y] } v'))=.agg row∧T2 H b bs row H4:=⟨_,rfl,{ m with args:=m.args++[y] },v',fp',rfl,by simpa using o',nd',fun c hc=>by
   rcases hm' c hc with g|g|g
   ·exact bw c g
   ·cases g
   ·omega,by simp only[List.length_append,List.length_cons,List.length_nil];omega,hn,d4⟩
  first|exact⟨rfl,fin⟩|exact fin|exact⟨by simp only[Aac,Aad,EO,p3,p4],fin⟩|exact⟨by simp only[cY,Aac,Aad,EO,p3,p4],fin⟩|trace_state
 by_cases k3:x=3
 ·simp only[au,Aaa,Aab,pD,jn,fZ,bN,ae,ag,w1,w2',w3,aW k0,aW k1,aW k2,aR k3];refine zrq (NR _ hb e2.cur) ?_;rintro _ H3 ⟨y,rfl,q⟩;replace q:aP H2 H3 b bs:=q;simp only[au,Aaa,Aab,pD,jn,fZ,bN,ae,ag,w1,w2',w3];have fin:=FIN { m with value:=y } H3 rfl hn q;first|exact⟨rfl,fin⟩|exact fin|exact⟨by simp only[Aac,Aad,EO,w3,w4'],fin⟩|exact⟨by simp only[cY,Aac,Aad,EO,w3,w4'],fin⟩
 by_cases k4:x=4
 ·simp only[au,Aaa,Aab,pD,jn,fZ,bN,ae,ag,w1,w2',w3,aW k0,aW k1,aW k2,aW k3,aR k4,TV];have dA:aP H2 (H2++[some (0,[AV.int .i64 0,.int .i64 999999,.int .i64 1000000])]) b bs:=.pE e2.cur (cQ.app _ _);refine zrq (At _ hb dA.cur (po H2 [0,999999,1000000] rfl) (by simp only[Aae];omega) (by simp)) ?_;rintro _ H3 ⟨z,rfl,q⟩;replace q:aP (H2++[some (0,_)]) H3 b bs:=q;simp only[au,Aaa,Aab,pD,jn,fZ,bN,ae,ag,w1,w2',w3];have fin:=FIN { m with question:=z } H3 rfl hn (dA.trans q);first|exact⟨rfl,fin⟩|exact fin|exact⟨by simp only[Aac,Aad,EO,w3,w4'],fin⟩|exact⟨by simp only[cY,Aac,Aad,EO,w3,w4'],fin⟩
 by_cases k5:x=5
 ·simp only[au,Aaa,Aab,pD,jn,fZ,bN,ae,ag,w1,w2',w3,aW k0,aW k1,aW k2,aW k3,aW k4,aR k5,TV];have os:=Fu H2 [⟨#[]⟩,⟨#[97,98,99,100,101,102,103]⟩,⟨#[65]⟩] rfl;have dA:aP H2 (H2++[some (0,[AV.str ⟨#[]⟩,.str ⟨#[97,98,99,100,101,102,103]⟩,.str ⟨#[65]⟩])]) b bs:=.pE e2.cur (cQ.app _ _);refine zrq (RC _ hb dA.cur os (by simp) (by simp only[Aae];omega) (by simp)) ?_;rintro _ H3 ⟨s,hs,rfl,q⟩;replace q:aP (H2++[some (0,_)]) H3 b bs:=q;have sz:s.size≤100:=by
   simp only[Aag,Aaf,or_false]at hs;rcases hs with rfl|rfl|rfl<;>decide
  simp only[au,Aaa,Aab,pD,jn,fZ,bN,ae,ag,w1,w2',w3];have fin:=FIN { m with name:=s } H3 rfl sz (dA.trans q);first|exact⟨rfl,fin⟩|exact fin|exact⟨by simp only[Aac,Aad,EO,w3,w4'],fin⟩|exact⟨by simp only[cY,Aac,Aad,EO,w3,w4'],fin⟩
 by_cases k6:x=6
 ·simp only[au,Aaa,Aab,pD,jn,fZ,bN,ae,ag,w1,w2',w3,aW k0,aW k1,aW k2,aW k3,aW k4,aW k5,aR k6,TV];have dA:aP H2 (H2++[some (0,[AV.int .i64 0,.int .i64 (-1),.int .i64 1000000])]) b bs:=.pE e2.cur (cQ.app _ _);refine zrq (At _ hb dA.cur (po H2 [0,-1,1000000] rfl) (by simp only[Aae];omega) (by simp)) ?_;rintro _ H3 ⟨z,rfl,q⟩;replace q:aP (H2++[some (0,_)]) H3 b bs:=q;simp only[au,Aaa,Aab,pD,jn,fZ,bN,ae,ag,w1,w2',w3];have fin:=FIN { m with tag:={ m.tag with seq:=z } } H3 rfl hn (dA.trans q);first|exact⟨rfl,fin⟩|exact fin|exact⟨by simp only[Aac,Aad,EO,w3,w4'],fin⟩|exact⟨by simp only[cY,Aac,Aad,EO,w3,w4'],fin⟩
 simp only[au,Aaa,Aab,pD,jn,fZ,bN,ae,ag,w1,w2',w3,aW k0,aW k1,aW k2,aW k3,aW k4,aW k5,aW k6];have fin:=FIN m H2 rfl hn self;first|exact⟨rfl,fin⟩|exact fin|exact⟨by simp only[Aac,Aad,EO,w3,w4'],fin⟩|exact⟨by simp only[cY,Aac,Aad,EO,w3,w4'],fin⟩
mutual
theorem CD.pv:∀d:CD,PV (d.av false)
 | .i k n=>by unfold CD.av;exact .int k n
 | .b x=>by unfold CD.av;exact .bool x
 | .s x=>by unfold CD.av;exact .str x
 | .sl sz xs=>by unfold CD.av;exact .vs false sz false _ (fun h=>by cases h) (CD.Vy xs)
theorem CD.pvL:∀(l:List CD),∀x∈CD.Ub false l,PV x
 | [],x,h=>by unfold CD.Ub at h;cases h
 | d::r,x,h=>by
  unfold CD.Ub at h;rcases Aag.1 h with g|g
  ·rw[g];exact CD.pv d
  ·exact CD.pvL r x g
theorem CD.Vy:∀(ls:List (List CD)),∀l∈CD.GH false ls,∀x∈l,PV x
 | [],l,h=>by unfold CD.GH at h;cases h
 | d::r,l,h=>by
  unfold CD.GH at h;rcases Aag.1 h with g|g
  ·rw[g];exact CD.pvL d
  ·exact CD.Vy r l g
end
theorem D2{ds:List CD}{cs:List AV}(h:ds.map (CD.av false)=cs):PV (.agg cs):=.agg _ fun x hx=>by
 rw[←h]at hx;obtain⟨d,_,rfl⟩:=List.mem_map.1 hx;exact CD.pv d
def qx(K:Nat)(r:AV):Prop:=∃(v:ar) (n:Int) (m:ah),r=.tup [.agg (v.c false),.int .i64 n,.agg (m.c false)]∧GX K v∧m.args.length≤4∧m.name.size≤100
theorem qx.mono{K K':Nat}{r:AV}(h:qx K r)(hK:K≤K'):qx K' r:=by
 obtain⟨v,n,m,e,g,h1,h2⟩:=h;exact⟨v,n,m,e,g.mono hK,h1,h2⟩
theorem qx.pv{K:Nat}{r:AV}(h:qx K r):PV r:=by
 obtain⟨v,n,m,rfl,_⟩:=h;exact .tup _ fun x hx=>by
  simp only[Aag,Aaf,or_false]at hx;rcases hx with rfl|rfl|rfl
  ·exact D2 (ar.bO false v)
  ·exact .int _ _
  ·exact D2 (ah.bO false m)
theorem GC{f:FuncId}{args:List AV}{h:AH}{K:Nat}(t:T pQ Γ f args h fun r h'=>∃(v:ar) (n:Int) (m:ah) (ac am:List AV) (fv fm:List Nat),r=.tup [.agg ac,.int .i64 n,.agg am]∧aM h' ac v.cd fv∧aM h' am m.cd fm∧(∀c∈fv,h.length≤c)∧(∀c∈fm,h.length≤c)∧cQ h h'∧GX K v∧m.args.length≤4∧m.name.size≤100):
 T pQ Γ f args h fun r h'=>qx K r∧h'=h:=by
 refine(T.froz (R:=fun rs=>∃(v:ar) (n:Int) (m:ah),rs=[.a v.cd,.c (.i .i64 n),.a m.cd]∧GX K v∧m.args.length≤4∧m.name.size≤100) (t.mono ?_)).mono ?_
 ·rintro r h' ⟨v,n,m,ac,am,fv,fm,rfl,ov,om,bv,bm,ex,g,h1,h2⟩;exact⟨[.agg ac,.int .i64 n,.agg am],[.a v.cd,.c (.i .i64 n),.a m.cd],fv++fm,rfl,⟨fv,fm,rfl,⟨_,rfl,ov⟩,[],fm,by simp,.i _ _,fm,[],by simp,⟨_,rfl,om⟩,rfl⟩,fun c hc=>by
   rcases List.mem_append.1 hc with q|q
   ·exact bv c q
   ·exact bm c q,ex,v,n,m,rfl,g,h1,h2⟩
 ·rintro r h' ⟨⟨rs,⟨v,n,m,rfl,g,h1,h2⟩,rfl⟩,rfl⟩;refine⟨⟨v,n,m,?_,g,h1,h2⟩,rfl⟩;simp only[List.map_cons,List.map_nil,vb,rd_c,ES,CD.mY,ar.bO,ah.bO]
set_option maxHeartbeats 8000000 in
set_option maxRecDepth 100000 in
theorem N5(bs:List Int)(hbs:bs.length≤1073741824)(h:AH):T pQ Γ Fn.kbT [.vs false 1 false (bs.map fun n=>[.int .u8 n])] h fun r h'=>qx 82 r∧h'=h:=by
 refine GC ?_;refine kbT_e (aC aG mixed [] _ _ _ ?_);unfold Sr;simp only[au,Aaa,Aab,yW,pY,qh,ly,ll,bN,ae,ag];refine zrq (II bs hbs _) ?_;rintro _ H1 ⟨b,rfl,hc,e1,hbh⟩;replace e1:cQ h H1:=e1;replace hbh:h.length≤b:=hbh;have hbl:b<H1.length:=by obtain⟨_,_,_,hg⟩:=hc;exact eS hg
 simp only[au,Aaa,Aab,yW,pY,qh,ly,ll,bN,ae,ag];refine zrq (PF H1 hbs hc) ?_;rintro _ H2 ⟨v,wE,w2,wL,w4,f,rfl,g,x2⟩;replace x2:VC H1 H2 b bs v wE w2 wL w4 f:=x2;obtain⟨⟨a1,a2,a3,a4⟩,⟨b1,b2,b3,b4⟩,⟨c1,c2,c3,c4⟩,⟨d1,d2,d3,d4⟩,lE⟩:=x2.cell;have FIN:∀(Hf:AH) (n:Int) (m:ah) (w:AV) (fp:List Nat),aP H2 Hf b bs→b9 Hf w (.sl 2 (m.args.map aJ.cd)) fp→(∀c∈fp,H2.length≤c)→m.args.length≤4→m.name.size≤100→∃(v0:ar) (n':Int) (m':ah) (ac am:List AV) (fv fm:List Nat),(AV.tup [.agg [.int .i64 v.id,wE,w2,wL,w4],.int .i64 n,.agg (cS m w)])=.tup [.agg ac,.int .i64 n',.agg am]∧aM Hf ac v0.cd fv∧aM Hf am m'.cd fm∧(∀c∈fv,h.length≤c)∧(∀c∈fm,h.length≤c)∧cQ h Hf∧GX 82 v0∧m'.args.length≤4∧m'.name.size≤100:=fun Hf n m w fp q ow bw ha hn=>by
  have xf:=x2.draw q;have he1:=e1.len;have hd:=x2.dr.len;exact⟨v,n,m,_,_,f,fp,rfl,xf.own,xO ow,fun c hc=>by have:=(xf.bf c hc).1;omega,fun c hc=>by have:=bw c hc;omega,⟨by have:=xf.dr.len;omega,fun c hc=>by rw[xf.dr.fr c (by omega) (by omega),e1.fr c hc]⟩,g,ha,hn⟩
 simp only[au,Aaa,Aab,yW,pY,qh,ly,ll,bN,ae,ag,a1,a2,a3,b1,b2,b3,c1,c2,c3,d1,d2,d3];refine zrq (uv _ hbs x2.dr.cur _) ?_;rintro _ H3 ⟨on,rfl,q⟩;replace q:aP H2 H3 b bs:=q;have x3:=x2.draw q;cases on;rotate_left
 ·simp only[au,Aaa,Aab,yW,pY,qh,ly,ll,bN,ae,ag,a1,a2,a3,b1,b2,b3,c1,c2,c3,d1,d2,d3];refine zrq (Ov _ hbs q.cur) ?_;rintro _ H4 ⟨n,rfl,q4⟩;replace q4:aP H3 H4 b bs:=q4;simp only[au,Aaa,Aab,yW,pY,qh,ly,ll,bN,ae,ag,a1,a2,a3,b1,b2,b3,c1,c2,c3,d1,d2,d3];refine zrq (Lq _ hbs q4.cur) ?_;rintro _ H5 ⟨_,rfl,m,w,fp,rfl,ow,nw,bw,ha,hn,q5⟩;replace q5:aP H4 H5 b bs:=q5;replace ow:b9 H5 w _ fp:=ow;replace bw:∀c∈fp,H4.length≤c:=bw;obtain⟨w1,w2',w3,w4'⟩:=ow.cell;have l3:=q.len;have l4:=q4.len;have fin:=FIN H5 n m w fp (q.trans (q4.trans q5)) ow (fun c hc=>by have:=bw c hc;omega) ha hn;simp only[au,Aaa,Aab,yW,pY,qh,ly,ll,bN,ae,ag,a1,a2,a3,b1,b2,b3,c1,c2,c3,d1,d2,d3,cS,w1,w2',w3];try refine⟨fun r hr n cs hc=>by
   simp only[Aag,Aaf,or_false]at hr;subst hr;exact hc,?_⟩
  try simp only[cS]at fin
  refine⟨?_,fin⟩;simp only[Aac,Aad,EO,a3,a4,b3,b4,c3,c4,d3,d4,w3,w4']
 simp only[au,Aaa,Aab,yW,pY,qh,ly,ll,bN,ae,ag,a1,a2,a3,b1,b2,b3,c1,c2,c3,d1,d2,d3];refine al.ref (by simp only[EO,a3,a4,b3,b4,c3,c4,d3,d4]) (PW H3 hbs q.cur x3.own x3.nd (fun q=>(x3.bf b q).2 rfl) g.gi.aq (fun l hl=>(g.gi.vi.Cu.mono (show wV v+100≤1048576 by have:=g.gi.w;omega) l hl).2.1)) ?_;rintro _ H5 ⟨n,m,rfl,ha,hn,hkd,q5⟩;replace q5:aP H3 H5 b bs:=q5;have ow:b9 H5 .nils (.sl 2 (m.args.map aJ.cd)) []:=by rw[ha];exact .nil _
 obtain⟨w1,w2',w3,w4'⟩:=ow.cell;have fin:=FIN H5 n m .nils [] (q.trans q5) ow (fun c hc=>by cases hc) (by rw[ha];exact Aah _) hn;simp only[au,Aaa,Aab,yW,pY,qh,ly,ll,bN,ae,ag,a1,a2,a3,b1,b2,b3,c1,c2,c3,d1,d2,d3,cS,w1,w2',w3];try refine⟨fun r hr n cs hc=>by
  simp only[Aag,Aaf,or_false]at hr;subst hr;exact hc,?_⟩
 try simp only[cS]at fin
 refine⟨?_,fin⟩;simp only[Aac,Aad,EO,a3,a4,b3,b4,c3,c4,d3,d4,w3,w4']
set_option maxHeartbeats 8000000 in
set_option maxRecDepth 100000 in
theorem RR(bs:List Int)(hbs:bs.length≤1073741824)(h:AH):T pQ Γ Fn.kbS [.vs false 1 false (bs.map fun n=>[.int .u8 n])] h fun r h'=>qx 82 r∧h'=h:=by
 refine GC ?_;refine XD (aC aG mixed [] _ _ _ ?_);unfold Rp;simp only[au,Aaa,Aab,xg,pB,kM,bN,ae,ag];refine zrq (II bs hbs _) ?_;rintro _ H1 ⟨b,rfl,hc,e1,hbh⟩;replace e1:cQ h H1:=e1;replace hbh:h.length≤b:=hbh;have hbl:b<H1.length:=by obtain⟨_,_,_,hg⟩:=hc;exact eS hg
 simp only[au,Aaa,Aab,xg,pB,kM,bN,ae,ag];refine zrq (PF H1 hbs hc) ?_;rintro _ H2 ⟨v,wE,w2,wL,w4,f,rfl,g,x2⟩;replace x2:VC H1 H2 b bs v wE w2 wL w4 f:=x2;obtain⟨⟨a1,a2,a3,a4⟩,⟨b1,b2,b3,b4⟩,⟨c1,c2,c3,c4⟩,⟨d1,d2,d3,d4⟩,lE⟩:=x2.cell;have FIN:∀(Hf:AH) (n:Int) (m:ah) (w:AV) (fp:List Nat),aP H2 Hf b bs→b9 Hf w (.sl 2 (m.args.map aJ.cd)) fp→(∀c∈fp,H2.length≤c)→m.args.length≤4→m.name.size≤100→∃(v0:ar) (n':Int) (m':ah) (ac am:List AV) (fv fm:List Nat),(AV.tup [.agg [.int .i64 v.id,wE,w2,wL,w4],.int .i64 n,.agg (cS m w)])=.tup [.agg ac,.int .i64 n',.agg am]∧aM Hf ac v0.cd fv∧aM Hf am m'.cd fm∧(∀c∈fv,h.length≤c)∧(∀c∈fm,h.length≤c)∧cQ h Hf∧GX 82 v0∧m'.args.length≤4∧m'.name.size≤100:=fun Hf n m w fp q ow bw ha hn=>by
  have xf:=x2.draw q;have he1:=e1.len;have hd:=x2.dr.len;exact⟨v,n,m,_,_,f,fp,rfl,xf.own,xO ow,fun c hc=>by have:=(xf.bf c hc).1;omega,fun c hc=>by have:=bw c hc;omega,⟨by have:=xf.dr.len;omega,fun c hc=>by rw[xf.dr.fr c (by omega) (by omega),e1.fr c hc]⟩,g,ha,hn⟩
 simp only[au,Aaa,Aab,xg,pB,kM,bN,ae,ag,a1,a2,a3,b1,b2,b3,c1,c2,c3,d1,d2,d3];refine zrq (Ov _ hbs x2.dr.cur) ?_;rintro _ H4 ⟨n,rfl,q4⟩;replace q4:aP H2 H4 b bs:=q4;simp only[au,Aaa,Aab,xg,pB,kM,bN,ae,ag,a1,a2,a3,b1,b2,b3,c1,c2,c3,d1,d2,d3];refine zrq (Lq _ hbs q4.cur) ?_;rintro _ H5 ⟨_,rfl,m,w,fp,rfl,ow,nw,bw,ha,hn,q5⟩;replace q5:aP H4 H5 b bs:=q5;replace ow:b9 H5 w _ fp:=ow;replace bw:∀c∈fp,H4.length≤c:=bw;obtain⟨w1,w2',w3,w4'⟩:=ow.cell;have l4:=q4.len;have l5:=q5.len;simp only[au,Aaa,Aab,xg,pB,kM,bN,ae,ag,a1,a2,a3,b1,b2,b3,c1,c2,c3,d1,d2,d3,cS,w1,w2',w3];refine zrq (uv _ hbs q5.cur _) ?_;rintro _ H6 ⟨on,rfl,q6⟩;replace q6:aP H5 H6 b bs:=q6;have ow6:=q6.own ow (fun g=>by have:=bw b g;have:=x2.dr.len;omega);have l6:=q6.len;cases on
 ·have fin:=FIN H6 n m w fp (q4.trans (q5.trans q6)) ow6 (fun c hc=>by have:=bw c hc;omega) ha hn;simp only[au,Aaa,Aab,xg,pB,kM,bN,ae,ag,a1,a2,a3,b1,b2,b3,c1,c2,c3,d1,d2,d3,cS,w1,w2',w3];try refine⟨fun r hr n cs hc=>by
   simp only[Aag,Aaf,or_false]at hr;subst hr;exact hc,?_⟩
  try simp only[cS]at fin
  refine⟨?_,fin⟩;simp only[Aac,Aad,EO,a3,a4,b3,b4,c3,c4,d3,d4,w3,w4']
 simp only[au,Aaa,Aab,xg,pB,kM,bN,ae,ag,a1,a2,a3,b1,b2,b3,c1,c2,c3,d1,d2,d3,cS,w1,w2',w3,rp_2];have dA:aP H6 (H6++[some (0,[AV.int .i64 3,.int .i64 5])]) b bs:=.pE q6.cur (cQ.app _ _);have lb6:b<H6.length:=by have:=x2.dr.len;omega
 refine zrq (At _ hbs dA.cur (po H6 [3,5] rfl) (by simp only[Aae];omega) (by simp)) ?_;rintro _ H7 ⟨k7,rfl,q7⟩;replace q7:aP (H6++[some (0,_)]) H7 b bs:=q7;have q67:=dA.trans q7;simp only[au,Aaa,Aab,xg,pB,kM,bN,ae,ag,a1,a2,a3,b1,b2,b3,c1,c2,c3,d1,d2,d3,cS,w1,w2',w3];refine zrq (bt _ hbs q67.cur _) ?_;rintro _ H8 ⟨z,rfl,_,_,q8⟩;replace q8:aP H7 H8 b bs:=q8;have fin:=FIN H8 n ⟨k7,0,0,IntKind.i64.wrap (1+z),⟨#[]⟩,[],⟨0,0⟩,0,⟨0,0,0⟩⟩ .nils [] (q4.trans (q5.trans (q6.trans (q67.trans q8)))) (.nil _) (fun c hc=>by cases hc) (Aah _) (Aah _);simp only[au,Aaa,Aab,xg,pB,kM,bN,ae,ag,a1,a2,a3,b1,b2,b3,c1,c2,c3,d1,d2,d3,cS,w1,w2',w3,ji,sO,sI,sK];try refine⟨fun r hr n cs hc=>by
  simp only[Aag,Aaf,or_false]at hr;subst hr;exact hc,?_⟩
 try simp only[cS]at fin
 refine⟨?_,fin⟩;simp only[Aac,Aad,EO,a3,a4,b3,b4,c3,c4,d3,d4,w3,w4']
set_option maxHeartbeats 8000000 in
set_option maxRecDepth 100000 in
theorem kbP_V(bs:List Int)(hbs:bs.length≤1073741824)(h:AH):T pQ Γ Fn.kbP [.vs false 1 false (bs.map fun n=>[.int .u8 n])] h fun r h'=>qx 79 r∧h'=h:=by
 refine GC ?_;refine kbP_e (aC aG mixed [] _ _ _ ?_);unfold Nz;simp only[au,Aaa,Aab,Ao,rm,nh,bN,ae,ag];refine zrq (II bs hbs _) ?_;rintro _ H1 ⟨b,rfl,hc,e1,hbh⟩;replace e1:cQ h H1:=e1;replace hbh:h.length≤b:=hbh;have hbl:b<H1.length:=by obtain⟨_,_,_,hg⟩:=hc;exact eS hg
 simp only[au,Aaa,Aab,Ao,rm,nh,bN,ae,ag];refine zrq (Sz H1 hbs hc) ?_;rintro _ H2 ⟨v,wE,w2,wL,w4,f,rfl,g,x2⟩;replace x2:VC H1 H2 b bs v wE w2 wL w4 f:=x2;obtain⟨⟨a1,a2,a3,a4⟩,⟨b1,b2,b3,b4⟩,⟨c1,c2,c3,c4⟩,⟨d1,d2,d3,d4⟩,lE⟩:=x2.cell;have FIN:∀(Hf:AH) (n:Int) (m:ah) (w:AV) (fp:List Nat),aP H2 Hf b bs→b9 Hf w (.sl 2 (m.args.map aJ.cd)) fp→(∀c∈fp,H2.length≤c)→m.args.length≤4→m.name.size≤100→∃(v0:ar) (n':Int) (m':ah) (ac am:List AV) (fv fm:List Nat),(AV.tup [.agg [.int .i64 v.id,wE,w2,wL,w4],.int .i64 n,.agg (cS m w)])=.tup [.agg ac,.int .i64 n',.agg am]∧aM Hf ac v0.cd fv∧aM Hf am m'.cd fm∧(∀c∈fv,h.length≤c)∧(∀c∈fm,h.length≤c)∧cQ h Hf∧GX 79 v0∧m'.args.length≤4∧m'.name.size≤100:=fun Hf n m w fp q ow bw ha hn=>by
  have xf:=x2.draw q;have he1:=e1.len;have hd:=x2.dr.len;exact⟨v,n,m,_,_,f,fp,rfl,xf.own,xO ow,fun c hc=>by have:=(xf.bf c hc).1;omega,fun c hc=>by have:=bw c hc;omega,⟨by have:=xf.dr.len;omega,fun c hc=>by rw[xf.dr.fr c (by omega) (by omega),e1.fr c hc]⟩,g,ha,hn⟩
 simp only[au,Aaa,Aab,Ao,rm,nh,bN,ae,ag,a1,a2,a3,b1,b2,b3,c1,c2,c3,d1,d2,d3];refine al.ref (by simp only[EO,a3,a4,b3,b4,c3,c4,d3,d4]) (Sk H2 hbs x2.dr.cur v.id wE w2 wL w4 a1 a2 b1 b2 c1 c2 d1 d2) ?_;rintro _ H3 ⟨n,_,rfl,m,w,fp,rfl,ow,nw,bw,ha,hn,q⟩;replace q:aP H2 H3 b bs:=q;replace ow:b9 H3 w _ fp:=ow;replace bw:∀c∈fp,H2.length≤c:=bw;obtain⟨w1,w2',w3,w4'⟩:=ow.cell;have l3:=q.len;simp only[au,Aaa,Aab,Ao,rm,nh,bN,ae,ag,a1,a2,a3,b1,b2,b3,c1,c2,c3,d1,d2,d3,cS,w1,w2',w3];refine zrq (uv _ hbs q.cur _) ?_;rintro _ H4 ⟨on,rfl,q4⟩;replace q4:aP H3 H4 b bs:=q4;have ow4:=q4.own ow (fun g=>by have:=bw b g;have:=x2.dr.len;omega);cases on
 ·have fin:=FIN H4 n m w fp (q.trans q4) ow4 bw (by omega) hn;simp only[au,Aaa,Aab,Ao,rm,nh,bN,ae,ag,a1,a2,a3,b1,b2,b3,c1,c2,c3,d1,d2,d3,cS,w1,w2',w3];try refine⟨fun r hr n cs hc=>by
   simp only[Aag,Aaf,or_false]at hr;subst hr;exact hc,?_⟩
  try simp only[cS]at fin
  refine⟨?_,fin⟩;simp only[Aac,Aad,EO,a3,a4,b3,b4,c3,c4,d3,d4,w3,w4']
 clear w1 w2' w3 w4' ow4;simp only[au,Aaa,Aab,Ao,rm,nh,bN,ae,ag,a1,a2,a3,b1,b2,b3,c1,c2,c3,d1,d2,d3,cS];refine zrq (Lq _ hbs q4.cur) ?_;rintro _ H5 ⟨_,rfl,m',w',fp',rfl,ow',nw',bw',ha',hn',q5⟩;replace q5:aP H4 H5 b bs:=q5;replace ow':b9 H5 w' _ fp':=ow';replace bw':∀c∈fp',H4.length≤c:=bw';obtain⟨w1,w2',w3,w4'⟩:=ow'.cell;have l4:=q4.len;have fin:=FIN H5 n m' w' fp' (q.trans (q4.trans q5)) ow' (fun c hc=>by have:=bw' c hc;omega) ha' hn';simp only[au,Aaa,Aab,Ao,rm,nh,bN,ae,ag,a1,a2,a3,b1,b2,b3,c1,c2,c3,d1,d2,d3,cS,w1,w2',w3];try refine⟨fun r hr n cs hc=>by
  simp only[Aag,Aaf,or_false]at hr;subst hr;exact hc,?_⟩
 try simp only[cS]at fin
 refine⟨?_,fin⟩;simp only[Aac,Aad,EO,a3,a4,b3,b4,c3,c4,d3,d4,w3,w4']
set_option maxHeartbeats 4000000 in
theorem kbR_V(bs:List Int)(hbs:bs.length≤1073741824)(h:AH):T pQ Γ Fn.kbR [.vs false 1 false (bs.map fun n=>[.int .u8 n])] h fun r h'=>qx 82 r∧h'=h:=by
 refine kbR_e (aC aG mixed [] _ _ _ ?_);unfold SF;simp only[au,Aaa,Aab,Mv,bN,ae,ag];refine zrq (kbP_V bs hbs _) ?_;rintro _ H1 ⟨⟨v,n,m,rfl,g,h1,h2⟩,e⟩;replace e:H1=h:=e;subst e;have fin:qx 82 (.tup [.agg (v.c false),.int .i64 n,.agg (m.c false)]):=⟨v,n,m,rfl,g.mono (by omega),h1,h2⟩
 simp only[au,Aaa,Aab,Mv,bN,ae,ag,kB,ar.c,ah.c];simp only[ar.c,ah.c]at fin;first|exact⟨rfl,fin,rfl⟩|exact⟨rfl,fin⟩|exact fin|trace_state
set_option maxHeartbeats 4000000 in
set_option maxRecDepth 100000 in
theorem XG(bs:List Int)(hbs:bs.length≤1073741824)(h:AH):T pQ Γ Fn.kbQ [.vs false 1 false (bs.map fun n=>[.int .u8 n])] h fun r h'=>qx 82 r∧h'=h:=by
 refine(?_:T pQ Γ Fn.kbQ _ h fun r h'=>qx 82 r∧cQ h h').drop (by rintro v h' ⟨d,e⟩;obtain⟨N,hN⟩:=e.out;exact⟨N,hN,d.pv.ob _,d,rfl⟩);refine ZE (aC aG mixed [] _ _ _ ?_);unfold PX;simp only[au,Aaa,Aab,yo,bN,ae,ag];refine zrq (II bs hbs _) ?_;rintro _ H1 ⟨b,rfl,hc,e1,hbh⟩;replace e1:cQ h H1:=e1;replace hbh:h.length≤b:=hbh;simp only[au,Aaa,Aab,yo,bN,ae,ag];refine zrq (bt _ hbs hc _) ?_;rintro _ H2 ⟨x,rfl,_,_,q⟩;replace q:aP H1 H2 b bs:=q;have ex:cQ h H2:=⟨by have:=e1.len;have:=q.len;omega,fun c hc=>by have:=e1.len;rw[q.fr c (by omega) (by omega),e1.fr c hc]⟩
 by_cases k0:x=0
 ·simp only[au,Aaa,Aab,yo,bN,ae,ag,aR k0];refine zrq (kbR_V bs hbs _) ?_;rintro _ H3 ⟨⟨v,n,m,rfl,g,h1,h2⟩,e⟩;replace e:H3=H2:=e;subst e;have fin:qx 82 (.tup [.agg (v.c false),.int .i64 n,.agg (m.c false)]):=⟨v,n,m,rfl,g,h1,h2⟩
  simp only[au,Aaa,Aab,yo,bN,ae,ag,kB,ar.c,ah.c];simp only[ar.c,ah.c]at fin;first|exact⟨rfl,fin,ex⟩|exact⟨fin,ex⟩|trace_state
 by_cases k1:x=1
 ·simp only[au,Aaa,Aab,yo,bN,ae,ag,aW k0,aR k1];refine zrq (RR bs hbs _) ?_;rintro _ H3 ⟨⟨v,n,m,rfl,g,h1,h2⟩,e⟩;replace e:H3=H2:=e;subst e;have fin:qx 82 (.tup [.agg (v.c false),.int .i64 n,.agg (m.c false)]):=⟨v,n,m,rfl,g,h1,h2⟩
  simp only[au,Aaa,Aab,yo,bN,ae,ag,kB,ar.c,ah.c];simp only[ar.c,ah.c]at fin;first|exact⟨rfl,fin,ex⟩|exact⟨fin,ex⟩|trace_state
 ·simp only[au,Aaa,Aab,yo,bN,ae,ag,aW k0,aW k1];refine zrq (N5 bs hbs _) ?_;rintro _ H3 ⟨⟨v,n,m,rfl,g,h1,h2⟩,e⟩;replace e:H3=H2:=e;subst e;have fin:qx 82 (.tup [.agg (v.c false),.int .i64 n,.agg (m.c false)]):=⟨v,n,m,rfl,g,h1,h2⟩
  simp only[au,Aaa,Aab,yo,bN,ae,ag,kB,ar.c,ah.c];simp only[ar.c,ah.c]at fin;first|exact⟨rfl,fin,ex⟩|exact⟨fin,ex⟩|trace_state
theorem an.ne(x y:an):fg .neq (.agg [.int .i64,.int .i64]) (.agg [.int .i64 x.kind,.int .i64 x.n]) (.agg [.int .i64 y.kind,.int .i64 y.n])=some (.bool !decide (x=y)):=by rw[lI];simp only[an.dec]
theorem cj.ne(x y:cj):fg .neq (.agg [.int .i64,.int .i64]) (.agg [.int .i64 x.peer,.int .i64 x.question]) (.agg [.int .i64 y.peer,.int .i64 y.question])=some (.bool !decide (x=y)):=by rw[lI];simp only[cj.dec]
theorem aB.ne(x y:aB):fg .neq (.agg [.int .i64,.int .i64]) (.agg [.int .i64 x.id,.int .i64 x.promise]) (.agg [.int .i64 y.id,.int .i64 y.promise])=some (.bool !decide (x=y)):=by rw[lI];simp only[aB.dec]
theorem aJ.ne(x y:aJ):fg .neq (.agg [.int .i64,.int .i64]) (.agg [.int .i64 x.kind,.int .i64 x.n]) (.agg [.int .i64 y.kind,.int .i64 y.n])=some (.bool !decide (x=y)):=by rw[lI];simp only[aJ.dec]
theorem nO.ne(x y:nO):fg .neq (.agg [.int .i64,.int .i64,.int .i64]) (.agg [.int .i64 x.vat,.int .i64 x.entity,.int .i64 x.seq]) (.agg [.int .i64 y.vat,.int .i64 y.entity,.int .i64 y.seq])=some (.bool !decide (x=y)):=by rw[pb];simp only[nO.dec]
theorem aE.ne(x y:aE):fg .neq (.agg [.int .i64,.int .i64,.int .i64]) (.agg [.int .i64 x.pos,.int .i64 x.entity,.int .i64 x.count]) (.agg [.int .i64 y.pos,.int .i64 y.entity,.int .i64 y.count])=some (.bool !decide (x=y)):=by rw[pb];simp only[aE.dec]
theorem w7(β β':Bool)(l m:List aJ)(hl:l.length≤1073741824)(h:AH):T pQ Γ Fn.kbH [.vs β 2 false (l.map (aJ.c β)),.vs β' 2 false (m.map (aJ.c β'))] h fun v h'=>v=.bool (decide (l=m))∧h'=h:=
 xY (sz:=2) (agg:=true) (ek:=.agg [.int .i64,.int .i64]) aG mixed (fun hw=>Yv hw) (by omega) (fun x=>⟨rfl,.inl rfl⟩) (fun x=>⟨rfl,.inl rfl⟩) (fun x y=>aJ.ne x y)
theorem uG(β β':Bool)(l m:List aE)(hl:l.length≤1073741824)(h:AH):T pQ Γ Fn.kbE [.vs β 3 false (l.map (aE.c β)),.vs β' 3 false (m.map (aE.c β'))] h fun v h'=>v=.bool (decide (l=m))∧h'=h:=
 xY (sz:=3) (agg:=true) (ek:=.agg [.int .i64,.int .i64,.int .i64]) aG mixed (fun hw=>Xc hw) (by omega) (fun x=>⟨rfl,.inl rfl⟩) (fun x=>⟨rfl,.inl rfl⟩) (fun x y=>aE.ne x y)
theorem oG(β β':Bool)(l m:List aB)(hl:l.length≤1073741824)(h:AH):T pQ Γ Fn.kbF [.vs β 2 false (l.map (aB.c β)),.vs β' 2 false (m.map (aB.c β'))] h fun v h'=>v=.bool (decide (l=m))∧h'=h:=
 xY (sz:=2) (agg:=true) (ek:=.agg [.int .i64,.int .i64]) aG mixed (fun hw=>Vc hw) (by omega) (fun x=>⟨rfl,.inl rfl⟩) (fun x=>⟨rfl,.inl rfl⟩) (fun x y=>aB.ne x y)
theorem qn(β β':Bool)(l m:List an)(hl:l.length≤1073741824)(h:AH):T pQ Γ Fn.kbG [.vs β 2 false (l.map (an.c β)),.vs β' 2 false (m.map (an.c β'))] h fun v h'=>v=.bool (decide (l=m))∧h'=h:=
 xY (sz:=2) (agg:=true) (ek:=.agg [.int .i64,.int .i64]) aG mixed (fun hw=>UQ hw) (by omega) (fun x=>⟨rfl,.inl rfl⟩) (fun x=>⟨rfl,.inl rfl⟩) (fun x y=>an.ne x y)
theorem vG(β β':Bool)(l m:List cj)(hl:l.length≤1073741824)(h:AH):T pQ Γ Fn.kbD [.vs β 2 false (l.map (cj.c β)),.vs β' 2 false (m.map (cj.c β'))] h fun v h'=>v=.bool (decide (l=m))∧h'=h:=
 xY (sz:=2) (agg:=true) (ek:=.agg [.int .i64,.int .i64]) aG mixed (fun hw=>XY hw) (by omega) (fun x=>⟨rfl,.inl rfl⟩) (fun x=>⟨rfl,.inl rfl⟩) (fun x y=>cj.ne x y)
theorem UZ(β β':Bool)(a b:ah)(ha:a.ok 1073741824)(h:AH):T pQ Γ Fn.ka8 [.agg (a.c β),.agg (b.c β')] h fun v h'=>v=.bool (decide (a=b))∧h'=h:=by
 have hv:∀x y:aJ,fg .eql (.agg [.int .i64,.int .i64]) (.agg [.int .i64 x.kind,.int .i64 x.n]) (.agg [.int .i64 y.kind,.int .i64 y.n])=some (.bool (decide (x=y))):=fun x y=>by rw[dV];simp only[aJ.dec]
 have ht:∀x y:nO,fg .eql (.agg [.int .i64,.int .i64,.int .i64]) (.agg [.int .i64 x.vat,.int .i64 x.entity,.int .i64 x.seq]) (.agg [.int .i64 y.vat,.int .i64 y.entity,.int .i64 y.seq])=some (.bool (decide (x=y))):=fun x y=>by rw[eU];simp only[nO.dec]
 refine ka8_e (aC aG mixed [] _ _ _ ?_);unfold O6;simp only[ah.c];by_cases n1:a.kind=b.kind;rotate_left
 ·simp only[au,Aaa,Aab,uw,ag,bD,cG,ae,hv,ht,aW n1];refine⟨rfl,?_⟩;rw[aW (fun e=>n1 (by rw[e]))]
 by_cases n2:a.pos=b.pos;rotate_left
 ·simp only[au,Aaa,Aab,uw,ag,bD,cG,ae,hv,ht,aW n2,aR n1];refine⟨rfl,?_⟩;rw[aW (fun e=>n2 (by rw[e]))]
 by_cases n3:a.answer=b.answer;rotate_left
 ·simp only[au,Aaa,Aab,uw,ag,bD,cG,ae,hv,ht,aW n3,aR n1,aR n2];refine⟨rfl,?_⟩;rw[aW (fun e=>n3 (by rw[e]))]
 by_cases n4:a.question=b.question;rotate_left
 ·simp only[au,Aaa,Aab,uw,ag,bD,cG,ae,hv,ht,aW n4,aR n1,aR n2,aR n3];refine⟨rfl,?_⟩;rw[aW (fun e=>n4 (by rw[e]))]
 by_cases n5:a.name=b.name;rotate_left
 ·simp only[au,Aaa,Aab,uw,ag,bD,cG,ae,hv,ht,aW n5,aR n1,aR n2,aR n3,aR n4];refine⟨rfl,?_⟩;rw[aW (fun e=>n5 (by rw[e]))]
 simp only[au,Aaa,Aab,uw,ag,bD,cG,ae,hv,ht,aR n1,aR n2,aR n3,aR n4,aR n5];refine al.val (by simp only[EO]) (w7 β β' _ _ ha.2 _) ?_;by_cases n6:a.args=b.args;rotate_left
 ·simp only[au,Aaa,Aab,uw,ag,bD,cG,ae,hv,ht,aW n6,aR n1,aR n2,aR n3,aR n4,aR n5];refine⟨rfl,?_⟩;rw[aW (fun e=>n6 (by rw[e]))]
 by_cases n7:a.value=b.value;rotate_left
 ·simp only[au,Aaa,Aab,uw,ag,bD,cG,ae,hv,ht,aW n7,aR n1,aR n2,aR n3,aR n4,aR n5,aR n6];refine⟨rfl,?_⟩;rw[aW (fun e=>n7 (by rw[e]))]
 by_cases n8:a.count=b.count;rotate_left
 ·simp only[au,Aaa,Aab,uw,ag,bD,cG,ae,hv,ht,aW n8,aR n1,aR n2,aR n3,aR n4,aR n5,aR n6,aR n7];refine⟨rfl,?_⟩;rw[aW (fun e=>n8 (by rw[e]))]
 by_cases n9:a.tag=b.tag;rotate_left
 ·simp only[au,Aaa,Aab,uw,ag,bD,cG,ae,hv,ht,aW n9,aR n1,aR n2,aR n3,aR n4,aR n5,aR n6,aR n7,aR n8];refine⟨rfl,?_⟩;rw[aW (fun e=>n9 (by rw[e]))]
 simp only[au,Aaa,Aab,uw,ag,bD,cG,ae,hv,ht,aR n1,aR n2,aR n3,aR n4,aR n5,aR n6,aR n7,aR n8,aR n9];exact⟨rfl,by rw[aR (by cases a;cases b;simp only[ah.mk.injEq];exact⟨n1,n2,n3,n4,n5,n6,n7,n8,n9⟩)]⟩
theorem VM(β β':Bool)(a b:aY)(ha:a.ok 1073741824)(h:AH):T pQ Γ Fn.kai [.agg (a.c β),.agg (b.c β')] h fun v h'=>v=.bool (decide (a=b))∧h'=h:=by
 refine kai_e (aC aG mixed [] _ _ _ ?_);unfold Ow;simp only[aY.c];by_cases n1:a.to_=b.to_;rotate_left
 ·simp only[au,Aaa,Aab,FU,ag,bD,cG,ae,aW n1];refine⟨rfl,?_⟩;rw[aW (fun e=>n1 (by rw[e]))]
 simp only[au,Aaa,Aab,FU,ag,bD,cG,ae,aR n1];refine al.val (by simp only[EO]) (UZ β β' a.message b.message ha _) ?_;by_cases n2:a.message=b.message;rotate_left
 ·simp only[au,Aaa,Aab,FU,ag,bD,cG,ae,aW n2,aR n1];refine⟨rfl,?_⟩;rw[aW (fun e=>n2 (by rw[e]))]
 simp only[au,Aaa,Aab,FU,ag,bD,cG,ae,aR n1,aR n2];exact⟨rfl,by rw[aR (by cases a;cases b;simp only[aY.mk.injEq];exact⟨n1,n2⟩)]⟩
theorem Wm(β β':Bool)(a b:aF)(ha:a.ok 1073741824)(h:AH):T pQ Γ Fn.kaf [.agg (a.c β),.agg (b.c β')] h fun v h'=>v=.bool (decide (a=b))∧h'=h:=by
 refine Ze (aC aG mixed [] _ _ _ ?_);unfold Oo;simp only[aF.c];by_cases n1:a.peer=b.peer;rotate_left
 ·simp only[au,Aaa,Aab,uA,ag,bD,cG,ae,aW n1];refine⟨rfl,?_⟩;rw[aW (fun e=>n1 (by rw[e]))]
 by_cases n2:a.up=b.up;rotate_left
 ·simp only[au,Aaa,Aab,uA,ag,bD,cG,ae,aW n2,aR n1];refine⟨rfl,?_⟩;rw[aW (fun e=>n2 (by rw[e]))]
 simp only[au,Aaa,Aab,uA,ag,bD,cG,ae,aR n1,aR n2];refine al.val (by simp only[EO]) (uG β β' _ _ ha.1 _) ?_;by_cases n3:a.exports=b.exports;rotate_left
 ·simp only[au,Aaa,Aab,uA,ag,bD,cG,ae,aW n3,aR n1,aR n2];refine⟨rfl,?_⟩;rw[aW (fun e=>n3 (by rw[e]))]
 by_cases n4:a.next=b.next;rotate_left
 ·simp only[au,Aaa,Aab,uA,ag,bD,cG,ae,aW n4,aR n1,aR n2,aR n3];refine⟨rfl,?_⟩;rw[aW (fun e=>n4 (by rw[e]))]
 simp only[au,Aaa,Aab,uA,ag,bD,cG,ae,aR n1,aR n2,aR n3,aR n4];refine al.val (by simp only[EO]) (oG β β' _ _ ha.2.1 _) ?_;by_cases n5:a.questions=b.questions;rotate_left
 ·simp only[au,Aaa,Aab,uA,ag,bD,cG,ae,aW n5,aR n1,aR n2,aR n3,aR n4];refine⟨rfl,?_⟩;rw[aW (fun e=>n5 (by rw[e]))]
 by_cases n6:a.asked=b.asked;rotate_left
 ·simp only[au,Aaa,Aab,uA,ag,bD,cG,ae,aW n6,aR n1,aR n2,aR n3,aR n4,aR n5];refine⟨rfl,?_⟩;rw[aW (fun e=>n6 (by rw[e]))]
 simp only[au,Aaa,Aab,uA,ag,bD,cG,ae,aR n1,aR n2,aR n3,aR n4,aR n5,aR n6];refine al.val (by simp only[EO]) (oG β β' _ _ ha.2.2 _) ?_;by_cases n7:a.answers=b.answers;rotate_left
 ·simp only[au,Aaa,Aab,uA,ag,bD,cG,ae,aW n7,aR n1,aR n2,aR n3,aR n4,aR n5,aR n6];refine⟨rfl,?_⟩;rw[aW (fun e=>n7 (by rw[e]))]
 simp only[au,Aaa,Aab,uA,ag,bD,cG,ae,aR n1,aR n2,aR n3,aR n4,aR n5,aR n6,aR n7];exact⟨rfl,by rw[aR (by cases a;cases b;simp only[aF.mk.injEq];exact⟨n1,n2,n3,n4,n5,n6,n7⟩)]⟩
theorem VH(β β':Bool)(a b:aK)(ha:a.ok 1073741824)(h:AH):T pQ Γ Fn.ka9 [.agg (a.c β),.agg (b.c β')] h fun v h'=>v=.bool (decide (a=b))∧h'=h:=by
 have ht:∀x y:nO,fg .eql (.agg [.int .i64,.int .i64,.int .i64]) (.agg [.int .i64 x.vat,.int .i64 x.entity,.int .i64 x.seq]) (.agg [.int .i64 y.vat,.int .i64 y.entity,.int .i64 y.seq])=some (.bool (decide (x=y))):=fun x y=>by rw[eU];simp only[nO.dec]
 refine Un (aC aG mixed [] _ _ _ ?_);unfold NA;simp only[aK.c];by_cases n1:a.target=b.target;rotate_left
 ·simp only[au,Aaa,Aab,Ah,ag,bD,cG,ae,ht,aW n1];refine⟨rfl,?_⟩;rw[aW (fun e=>n1 (by rw[e]))]
 by_cases n2:a.name=b.name;rotate_left
 ·simp only[au,Aaa,Aab,Ah,ag,bD,cG,ae,ht,aW n2,aR n1];refine⟨rfl,?_⟩;rw[aW (fun e=>n2 (by rw[e]))]
 simp only[au,Aaa,Aab,Ah,ag,bD,cG,ae,ht,aR n1,aR n2];refine al.val (by simp only[EO]) (qn β β' _ _ ha.2 _) ?_;by_cases n3:a.args=b.args;rotate_left
 ·simp only[au,Aaa,Aab,Ah,ag,bD,cG,ae,ht,aW n3,aR n1,aR n2];refine⟨rfl,?_⟩;rw[aW (fun e=>n3 (by rw[e]))]
 by_cases n4:a.result=b.result;rotate_left
 ·simp only[au,Aaa,Aab,Ah,ag,bD,cG,ae,ht,aW n4,aR n1,aR n2,aR n3];refine⟨rfl,?_⟩;rw[aW (fun e=>n4 (by rw[e]))]
 by_cases n5:a.tag=b.tag;rotate_left
 ·simp only[au,Aaa,Aab,Ah,ag,bD,cG,ae,ht,aW n5,aR n1,aR n2,aR n3,aR n4];refine⟨rfl,?_⟩;rw[aW (fun e=>n5 (by rw[e]))]
 simp only[au,Aaa,Aab,Ah,ag,bD,cG,ae,ht,aR n1,aR n2,aR n3,aR n4,aR n5];exact⟨rfl,by rw[aR (by cases a;cases b;simp only[aK.mk.injEq];exact⟨n1,n2,n3,n4,n5⟩)]⟩
theorem Pv(β β':Bool)(l m:List aK)(hl:l.length≤1073741824)(ho:∀x∈l,x.ok 1073741824)(h:AH):T pQ Γ Fn.kag [.vs β 7 false (l.map (aK.c β)),.vs β' 7 false (m.map (aK.c β'))] h fun v h'=>v=.bool (decide (l=m))∧h'=h:=by
 refine Wz (aC aG mixed [] _ _ _ ?_);unfold Ny;simp only[au,Aaa,Aab,LZ];have hcall:=sv (P:=pQ) (Γ:=Γ) aG mixed (sz:=7) (sz':=7) rfl rfl (fun hw=>kbC_e hw) (β:=β) (β':=β') (l:=l) (m:=m) (c:=aK.c β) (c':=aK.c β') (by omega) (fun x=>⟨rfl,rfl⟩) (fun x=>⟨rfl,rfl⟩)
  (g:=Fn.ka9) (first:=[]) (caps:=[]) rfl (fun x y=>decide (x=y)) (h:=h) (fun x hx y _=>VH β β' x y (ho x hx) h)
 refine al.val (by simp only[EO]) hcall ?_;simp only[au,Aaa,Aab,LZ,jR];first|exact⟨rfl,rfl⟩|exact rfl
theorem Xh(β β':Bool)(a b:aA)(ha:a.ok 1073741824)(h:AH):T pQ Γ Fn.kae [.agg (a.c β),.agg (b.c β')] h fun v h'=>v=.bool (decide (a=b))∧h'=h:=by
 have hv:∀x y:an,fg .eql (.agg [.int .i64,.int .i64]) (.agg [.int .i64 x.kind,.int .i64 x.n]) (.agg [.int .i64 y.kind,.int .i64 y.n])=some (.bool (decide (x=y))):=fun x y=>by rw[dV];simp only[an.dec]
 refine Zx (aC aG mixed [] _ _ _ ?_);unfold SB;simp only[aA.c];by_cases n1:a.kind=b.kind;rotate_left
 ·simp only[au,Aaa,Aab,qz,ag,bD,cG,ae,hv,aW n1];refine⟨rfl,?_⟩;rw[aW (fun e=>n1 (by rw[e]))]
 by_cases n2:a.script=b.script;rotate_left
 ·simp only[au,Aaa,Aab,qz,ag,bD,cG,ae,hv,aW n2,aR n1];refine⟨rfl,?_⟩;rw[aW (fun e=>n2 (by rw[e]))]
 simp only[au,Aaa,Aab,qz,ag,bD,cG,ae,hv,aR n1,aR n2];refine al.val (by simp only[EO]) (qn β β' _ _ ha.1 _) ?_;by_cases n3:a.slots=b.slots;rotate_left
 ·simp only[au,Aaa,Aab,qz,ag,bD,cG,ae,hv,aW n3,aR n1,aR n2];refine⟨rfl,?_⟩;rw[aW (fun e=>n3 (by rw[e]))]
 by_cases n4:a.state=b.state;rotate_left
 ·simp only[au,Aaa,Aab,qz,ag,bD,cG,ae,hv,aW n4,aR n1,aR n2,aR n3];refine⟨rfl,?_⟩;rw[aW (fun e=>n4 (by rw[e]))]
 by_cases n5:a.value=b.value;rotate_left
 ·simp only[au,Aaa,Aab,qz,ag,bD,cG,ae,hv,aW n5,aR n1,aR n2,aR n3,aR n4];refine⟨rfl,?_⟩;rw[aW (fun e=>n5 (by rw[e]))]
 simp only[au,Aaa,Aab,qz,ag,bD,cG,ae,hv,aR n1,aR n2,aR n3,aR n4,aR n5];refine al.val (by simp only[EO]) (Pv β β' _ _ ha.2.1 ha.2.2.1 _) ?_;by_cases n6:a.queue=b.queue;rotate_left
 ·simp only[au,Aaa,Aab,qz,ag,bD,cG,ae,hv,aW n6,aR n1,aR n2,aR n3,aR n4,aR n5];refine⟨rfl,?_⟩;rw[aW (fun e=>n6 (by rw[e]))]
 simp only[au,Aaa,Aab,qz,ag,bD,cG,ae,hv,aR n1,aR n2,aR n3,aR n4,aR n5,aR n6];refine al.val (by simp only[EO]) (vG β β' _ _ ha.2.2.2 _) ?_;by_cases n7:a.askers=b.askers;rotate_left
 ·simp only[au,Aaa,Aab,qz,ag,bD,cG,ae,hv,aW n7,aR n1,aR n2,aR n3,aR n4,aR n5,aR n6];refine⟨rfl,?_⟩;rw[aW (fun e=>n7 (by rw[e]))]
 by_cases n8:a.peer=b.peer;rotate_left
 ·simp only[au,Aaa,Aab,qz,ag,bD,cG,ae,hv,aW n8,aR n1,aR n2,aR n3,aR n4,aR n5,aR n6,aR n7];refine⟨rfl,?_⟩;rw[aW (fun e=>n8 (by rw[e]))]
 by_cases n9:a.pos=b.pos;rotate_left
 ·simp only[au,Aaa,Aab,qz,ag,bD,cG,ae,hv,aW n9,aR n1,aR n2,aR n3,aR n4,aR n5,aR n6,aR n7,aR n8];refine⟨rfl,?_⟩;rw[aW (fun e=>n9 (by rw[e]))]
 by_cases n10:a.count=b.count;rotate_left
 ·simp only[au,Aaa,Aab,qz,ag,bD,cG,ae,hv,aW n10,aR n1,aR n2,aR n3,aR n4,aR n5,aR n6,aR n7,aR n8,aR n9];refine⟨rfl,?_⟩;rw[aW (fun e=>n10 (by rw[e]))]
 by_cases n11:a.sent=b.sent;rotate_left
 ·simp only[au,Aaa,Aab,qz,ag,bD,cG,ae,hv,aW n11,aR n1,aR n2,aR n3,aR n4,aR n5,aR n6,aR n7,aR n8,aR n9,aR n10];refine⟨rfl,?_⟩;rw[aW (fun e=>n11 (by rw[e]))]
 simp only[au,Aaa,Aab,qz,ag,bD,cG,ae,hv,aR n1,aR n2,aR n3,aR n4,aR n5,aR n6,aR n7,aR n8,aR n9,aR n10,aR n11];exact⟨rfl,by rw[aR (by cases a;cases b;simp only[aA.mk.injEq];exact⟨n1,n2,n3,n4,n5,n6,n7,n8,n9,n10,n11⟩)]⟩
theorem TU(β β':Bool)(a b:ar)(ha:a.ok 1073741824)(h:AH):T pQ Γ Fn.kbz [.vs β 12 false (a.entities.map (aA.c β)),.vs β' 12 false (b.entities.map (aA.c β')),.fn Fn.kae [] []] h fun v h'=>v=.bool (decide (a.entities=b.entities))∧h'=h:=by
 have:=sv (P:=pQ) (Γ:=Γ) aG mixed (sz:=12) (sz':=12) rfl rfl (fun hw=>UT hw) (β:=β) (β':=β') (l:=a.entities) (m:=b.entities) (c:=aA.c β) (c':=aA.c β') (by have:=ha.1;omega) (fun x=>⟨rfl,rfl⟩) (fun x=>⟨rfl,rfl⟩)
  (g:=Fn.kae) (first:=[]) (caps:=[]) rfl (fun x y=>decide (x=y)) (h:=h) (fun x hx y _=>Xh β β' x y (ha.2.1 x hx) h)
 simpa only[jR]using this
theorem MJ(β β':Bool)(a b:ar)(ha:a.ok 1073741824)(h:AH):T pQ Γ Fn.kbA [.vs β 7 false (a.aq.map (aF.c β)),.vs β' 7 false (b.aq.map (aF.c β')),.fn Fn.kaf [] []] h fun v h'=>v=.bool (decide (a.aq=b.aq))∧h'=h:=by
 have:=sv (P:=pQ) (Γ:=Γ) aG mixed (sz:=7) (sz':=7) rfl rfl (fun hw=>WK hw) (β:=β) (β':=β') (l:=a.aq) (m:=b.aq) (c:=aF.c β) (c':=aF.c β') (by have:=ha.2.2.2.2.1;omega) (fun x=>⟨rfl,rfl⟩) (fun x=>⟨rfl,rfl⟩)
  (g:=Fn.kaf) (first:=[]) (caps:=[]) rfl (fun x y=>decide (x=y)) (h:=h) (fun x hx y _=>Wm β β' x y (ha.2.2.2.2.2.1 x hx) h)
 simpa only[jR]using this
theorem T4(β β':Bool)(a b:ar)(ha:a.ok 1073741824)(h:AH):T pQ Γ Fn.kbB [.vs β 13 false (a.out.map (aY.c β)),.vs β' 13 false (b.out.map (aY.c β')),.fn Fn.kai [] []] h fun v h'=>v=.bool (decide (a.out=b.out))∧h'=h:=by
 have:=sv (P:=pQ) (Γ:=Γ) aG mixed (sz:=13) (sz':=13) rfl rfl (fun hw=>U0 hw) (β:=β) (β':=β') (l:=a.out) (m:=b.out) (c:=aY.c β) (c':=aY.c β') (by have:=ha.2.2.2.2.2.2.1;omega) (fun x=>⟨rfl,rfl⟩) (fun x=>⟨rfl,rfl⟩)
  (g:=Fn.kai) (first:=[]) (caps:=[]) rfl (fun x y=>decide (x=y)) (h:=h) (fun x hx y _=>VM β β' x y (ha.2.2.2.2.2.2.2 x hx) h)
 simpa only[jR]using this
theorem FP(β β':Bool)(a b:ar)(ha:a.ok 1073741824)(h:AH):T pQ Γ Fn.kah [.agg (a.c β),.agg (b.c β')] h fun v h'=>v=.bool (decide (a=b))∧h'=h:=by
 refine UR (aC aG mixed [] _ _ _ ?_);unfold SC;simp only[ar.c];by_cases n1:a.id=b.id;rotate_left
 ·simp only[au,Aaa,Aab,vx,ag,bD,cG,ae,jR,aW n1];refine⟨rfl,?_⟩;rw[aW (fun e=>n1 (by rw[e]))]
 simp only[au,Aaa,Aab,vx,ag,bD,cG,ae,jR,aR n1];refine al.val (by simp only[EO]) (TU β β' a b ha _) ?_;by_cases n2:a.entities=b.entities;rotate_left
 ·simp only[au,Aaa,Aab,vx,ag,bD,cG,ae,jR,aW n2,aR n1];refine⟨rfl,?_⟩;rw[aW (fun e=>n2 (by rw[e]))]
 simp only[au,Aaa,Aab,vx,ag,bD,cG,ae,jR,aR n1,aR n2];refine al.val (by simp only[EO]) (Pv β β' _ _ ha.2.2.1 ha.2.2.2.1 _) ?_;by_cases n3:a.loop=b.loop;rotate_left
 ·simp only[au,Aaa,Aab,vx,ag,bD,cG,ae,jR,aW n3,aR n1,aR n2];refine⟨rfl,?_⟩;rw[aW (fun e=>n3 (by rw[e]))]
 simp only[au,Aaa,Aab,vx,ag,bD,cG,ae,jR,aR n1,aR n2,aR n3];refine al.val (by simp only[EO]) (MJ β β' a b ha _) ?_;by_cases n4:a.aq=b.aq;rotate_left
 ·simp only[au,Aaa,Aab,vx,ag,bD,cG,ae,jR,aW n4,aR n1,aR n2,aR n3];refine⟨rfl,?_⟩;rw[aW (fun e=>n4 (by rw[e]))]
 simp only[au,Aaa,Aab,vx,ag,bD,cG,ae,jR,aR n1,aR n2,aR n3,aR n4];refine al.val (by simp only[EO]) (T4 β β' a b ha _) ?_;by_cases n5:a.out=b.out;rotate_left
 ·simp only[au,Aaa,Aab,vx,ag,bD,cG,ae,jR,aW n5,aR n1,aR n2,aR n3,aR n4];refine⟨rfl,?_⟩;rw[aW (fun e=>n5 (by rw[e]))]
 simp only[au,Aaa,Aab,vx,ag,bD,cG,ae,jR,aR n1,aR n2,aR n3,aR n4,aR n5];exact⟨rfl,by rw[aR (by cases a;cases b;simp only[ar.mk.injEq];exact⟨n1,n2,n3,n4,n5⟩)]⟩
end Go.Proofs.YtolciaflplefcaaGreat
