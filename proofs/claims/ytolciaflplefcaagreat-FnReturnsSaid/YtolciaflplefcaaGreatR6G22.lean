import Derived.Test.YtolciaflplefcaaGreatR6G21
import Derived.Test.YtolciaflplefcaaGreatR6G20
import Derived.Test.YtolciaflplefcaaGreatR6G13
import Derived.Test.YtolciaflplefcaaGreatAmG9
set_option linter.unusedVariables false
set_option linter.unusedSimpArgs false
open Go.Proofs.Tryz renaming prog→pQ
open Nat renaming reduceAdd→Aaa,reduceBEq→Aab,le_refl→Aaf,zero_le→Aai
open List renaming nodup_append→Aac,mem_append→Aad,getElem?_append_left→Aae,mem_singleton→Aag,getElem_mem→Aah,length_map→Aaj,not_mem_nil→Aak,map_append→Aal,mem_append_right→Aam,nodup_nil→Aan,mem_append_left→Aao,mem_cons→Aap,length_take→Aaq,nil_append→Aar
namespace Go.Proofs.YtolciaflplefcaaGreat
open Go.AM
variable {Γ:bG}
def oZ(peer:Int)(a:ar×List an)(x:aJ):ar×List an:=((gm a.1 peer x).1,a.2++[(gm a.1 peer x).2])
def lZ(v:ar)(peer:Int)(l:List aJ):ar×List an:=l.foldl (oZ peer) (v,[])
theorem Av(v:ar)(peer:Int)(l:List aJ)(x:aJ):lZ v peer (l++[x])=oZ peer (lZ v peer l) x:=by
 unfold lZ;rw[List.foldl_append];rfl
set_option maxHeartbeats 4000000 in
theorem U1(v:ar)(hvi:VI v)(hw:wV v≤400000)(peer:Int)(β:Bool)(l:List aJ)(hl:l.length≤1048576)(H:AH){b:Nat}{f:List Nat}(a:jr H b v f):
 T pQ Γ Fn.kcA [.gp b 0 0,.int .i64 peer,.vs β 2 false (l.map (aJ.c β))] H fun r H'=>∃(v':ar) (xs:List an) (fx f':List Nat),(v',xs)=lZ v peer l∧Fr v v'∧b9 H' r (.sl 2 (xs.map an.cd)) fx∧fx.Nodup∧xs.length=l.length∧jr H' b v' f'∧H.length≤H'.length∧(∀c∈f',c∈f∨H.length≤c)∧(∀c∈fx,H.length≤c∧c∉f')∧∀c,c∉f→c≠b→c<H.length→H'[c]? = H[c]?:=by
 have L0:=eY β 2 false l (aJ.c β);obtain⟨q1,q2,q3,q4⟩:=a.lt;refine YT (aC aG mixed [] _ _ _ ?_);unfold Tj;simp only[au,Aaa,Aab,Dl,EA];refine fD aG mixed [] (fun x:Nat×AV×AH×List Nat×List Nat×ar×List an×List (List AV)=>x.1≤l.length∧(x.2.2.2.2.2.1,x.2.2.2.2.2.2.1)=lZ v peer (l.take x.1)∧x.2.2.2.2.2.2.1.length=x.1∧jr x.2.2.1 b x.2.2.2.2.2.1 x.2.2.2.1∧Fr v x.2.2.2.2.2.1∧b9 x.2.2.1 x.2.1 (.sl 2 (x.2.2.2.2.2.2.1.map an.cd)) x.2.2.2.2.1∧x.2.2.2.2.1.Nodup∧H.length≤x.2.2.1.length∧(∀c∈x.2.2.2.1,c∈f∨H.length≤c)∧(∀c∈x.2.2.2.2.1,H.length≤c∧c∉x.2.2.2.1)∧(∀c,c∉f→c≠b→c<H.length→x.2.2.1[c]? = H[c]?)) (fun x=>l.length-x.1)
  (fun x=>EG (.gp b 0 0) (.int .i64 peer) (.vs β 2 false (l.map (aJ.c β))) x.2.1 (.int .i64 x.1) x.2.2.2.2.2.2.2 x.2.2.1) (0,.gs H.length 0 0 0 0 2 true,H++[some (0,[])],f,[H.length],v,[],[])
  ⟨by simp,rfl,rfl,a.frame fun c hc=>Aae (by rcases hc with g|g;exact q1 c g;rw[g];exact q2),.refl v,gn H 2,by simp,by simp,fun c hc=>.inl hc,fun c hc=>by rw[Aag.1 hc];exact⟨Aaf _,fun g=>by have:=q1 _ g;omega⟩,fun c _ _ h=>Aae h⟩ ⟨by simp[EG,gW,gM],rfl,rfl⟩ ?_
 rintro⟨k,w,H1,f1,fw,v1,xs,M⟩ ⟨hk,hX,hx,ha,hF,ho,nd,hl1,m1,mw,r1⟩;simp only at hk hX hx ha hF ho nd hl1 m1 mw r1;simp only[au,Aaa,Aab,Dl,EG,L0];refine bz (fun hlt=>?_) (fun hge=>?_);rotate_left
 ·have hge:k=l.length:=by simp at hge;omega
  subst hge;obtain⟨ca,cb,cc,cd⟩:=ho.cell;simp only[au,Aaa,Aab,Dl,ca,cb,cc];rw[List.take_length]at hX;exact⟨ho.cY,v1,xs,fw,f1,hX,hF,ho,nd,hx,ha,hl1,m1,mw,r1⟩
 have hlt:k<l.length:=by simpa using hlt
 have i0:=fI (β:=β) (sz:=2) (ex:=false) (ce:=aJ.c β) hlt;obtain⟨x,hxx⟩:∃x,x=l[k]:=⟨_,rfl⟩
 rw[←hxx]at i0;obtain⟨ca,cb,cc,cd⟩:=ho.cell;simp only[au,Aaa,Aab,Dl,i0,aJ.c,ca,cb,cc];have ct:=Rn (Γ:=Γ) v1 (hF.vi hvi) (by rw[hF.w];exact hw) peer β x H1 ha;have F2:=nG v1 peer x;have hS:=Av v peer (l.take k) x;rw[←hX]at hS;unfold oZ at hS;simp only at hS;obtain⟨v2,hv2⟩:∃v2,v2=(gm v1 peer x).1:=⟨_,rfl⟩
 obtain⟨y,hy⟩:∃y,y=(gm v1 peer x).2:=⟨_,rfl⟩
 rw[←hv2,←hy]at ct hS;rw[←hv2]at F2;refine al.ref (by simp only[EO]) ct ?_;rintro r H2 ⟨rfl,f2,a2,l2,m2,r2⟩;replace l2:H1.length≤H2.length:=l2;replace a2:jr H2 b v2 f2:=a2;replace m2:∀c∈f2,c∈f1∨H1.length≤c:=m2;replace r2:∀c,c∉f1→c≠b→c<H1.length→H2[c]? = H1[c]?:=r2;obtain⟨p1,p2,p3,p4⟩:=a2.lt;have o2:b9 H2 w (.sl 2 (xs.map an.cd)) fw:=ho.frame fun c hc=>r2 c (mw c hc).2 (fun e=>by have:=(mw c hc).1;omega) (ho.lt c hc);obtain⟨v',H',fp',ea,o',nd',hf',hl',hm'⟩:=df (bytes:=16) o2 (ys:=[.int .i64 y.kind,.int .i64 y.n]) (row:=[.i .i64 y.kind,.i .i64 y.n]) (f2:=[]) (by simpa using nd) (by omega) rfl (.i (.i .nil)) (by simp only[Aaj,aU];omega);simp only[au,Aaa,Aab,Dl,EA,an.c,ca,cb,cc,ea];have old:∀c∈fw,c∉f2∧c≠b:=fun c hw=>by
  refine⟨fun h=>?_,fun e=>by have:=(mw c hw).1;omega⟩;rcases m2 c h with q|q
  ·exact(mw c hw).2 q
  ·have:=ho.lt c hw;omega
 refine⟨(k+1,v',H',f2,fp',v2,xs++[y],_),⟨hlt,by simp only;rw[List.take_succ_eq_append_getElem hlt,←hxx];exact hS.symm,by simp[hx],a2.frame fun c hc=>hf' c (fun hw=>by rcases hc with g|g;exact(old c hw).1 g;exact(old c hw).2 g) (by rcases hc with g|g;exact p1 c g;rw[g];exact p2),hF.trans F2,by simp only;rw[Aal];exact o',nd',by simp only;omega,fun c hc=>?_,fun c hc=>?_,fun c h1 h2 h3=>?_⟩,by simp only;omega,⟨by rw[wN (by omega)];simp[EG,gW,gM],rfl,rfl⟩⟩
 ·rcases m2 c hc with g|g
  ·exact m1 c g
  ·exact .inr (by omega)
 ·rcases hm' c hc with g|g|g
  ·exact⟨(mw c g).1,fun h=>(old c g).1 h⟩
  ·simp at g
  ·exact⟨by omega,fun h=>by have:=p1 c h;omega⟩
 ·simp only;rw[hf' c (fun g=>by have:=(mw c g).1;omega) (by omega),r2 c (fun g=>by rcases m1 c g with q|q;exact h1 q;omega) h2 (by omega),r1 c h1 h2 h3]
def fN(v:ar)(peer q st:Int):Int:=
 if bB (iw (fJ v peer).questions q) v.entities.length=true∧(aD v (iw (fJ v peer).questions q)).kind=2∧(aD v (iw (fJ v peer).questions q)).state=st∧(aD v (iw (fJ v peer).questions q)).peer=peer∧(aD v (iw (fJ v peer).questions q)).pos=q
 then iw (fJ v peer).questions q else -1
theorem Dj(v:ar)(peer q st:Int):fN v peer q st<0∨bB (fN v peer q st) v.entities.length=true:=by
 unfold fN;split
 ·rename_i hh;exact .inr hh.1
 ·exact .inl (by omega)
def qJ(v:ar)(peer q:Int):ar:=e8 (dU v (sg v peer) (rG (fJ v peer) q)) peer (gU 5 q)
def ta(v:ar)(peer q p:Int)(x:an):ar:=dD (aT (mJ (qJ v peer q)+1)) (qJ v peer q) p x
def uB(e:aA)(x:an):aA:={ e with state:=4,value:=x }
def nJ(v:ar)(peer:Int)(m:ah):ar:=
 if m.kind=4∧pX m=true∧rO v.aq peer=true∧¬fN v peer m.question 4<0 then ta v peer m.question (fN v peer m.question 4) (aD v (fN v peer m.question 4)).value else v
def ng(v:ar)(peer:Int)(m:ah):ar:=
 if m.kind=2∧pX m=true∧rO v.aq peer=true∧¬fN v peer m.question 3<0 then
  (if m.value.kind=2∧0<(aD (gm v peer m.value).1 (fN v peer m.question 3)).count then
   e8 (cT (gm v peer m.value).1 (fN v peer m.question 3).toNat (uB (aD (gm v peer m.value).1 (fN v peer m.question 3)) (gm v peer m.value).2)) peer (gU 3 m.question)
  else ta (gm v peer m.value).1 peer m.question (fN v peer m.question 3) (gm v peer m.value).2)
 else v
set_option maxHeartbeats 8000000 in
set_option maxRecDepth 100000 in
theorem OO(v:ar)(hvi:VI v)(hw:wV v≤400000)(peer:Int)(hu:rO v.aq peer=true)(q st:Int)(H:AH){b:Nat}{f:List Nat}(a:jr H b v f):
 T pQ Γ Fn.kcS [.gp b 0 0,.int .i64 peer,.int .i64 q,.int .i64 st] H fun r H'=>r=.int .i64 (fN v peer q st)∧H'=H:=by
 obtain⟨wE,w2,wL,w4,fE,f2,fL,f4,rfl,o⟩:=a;have hE:v.entities.length≤1048576:=by have:=hvi.fH;omega
 have hL:v.aq.length≤1048576:=by have:=hvi.aq;omega
 have hb:=o.hb;have blt:=o.blt;have cb:=VO.Cp hb;obtain⟨a1,a2,a3,a4⟩:=o.oE.cell;obtain⟨b1,b2,b3,b4⟩:=o.o2.cell;obtain⟨c1,c2,c3,c4⟩:=o.oL.cell;obtain⟨d1,d2,d3,d4⟩:=o.o4.cell;have lE:=(dc o.oE).2;rw[Aaj]at lE;obtain⟨k,hk,ek,ef⟩:=pM hu;have hR:fN v peer q st=_:=rfl;obtain⟨R,hRe⟩:∃R,R=fN v peer q st:=⟨_,rfl⟩
 rw[←hRe]at hR ⊢;unfold fN at hRe;rw[ib hk ek]at hRe;clear hR;refine Z8 (aC aG mixed [] _ _ _ ?_);unfold SI;simp only[au,Aaa,Aab,xe,pk,kQ,ot,ag,ae,cb,a1,a2,a3,b1,b2,b3,c1,c2,c3,d1,d2,d3];refine al.fk (by simp only[EO,a3,b3,c3,d3]) (aI (aM.fk (ar.bO true v) o.own) (aI (.same _) aZ)) (fun h=>yF true v hL peer h) (.int _ _) ?_;rw[ek];refine⟨lG fun r hr=>by
  simp only[Aap,Aak,or_false]at hr;subst hr;exact .inr ⟨_,_,_,rfl,rfl⟩,?_⟩
 obtain⟨bL,gL,nL,row,f0,iL,rL,lR,oR,nf0,sf0,bmL,bnL,wrL⟩:=o.tM hk;have hlok:=hvi.Cu.mono (show wV v+100≤1048576 by omega) _ (Aah hk);obtain⟨wX,wQ,wA,fX,fQ,fA,rfl,rfl,oX,oQ,oA⟩:=ck oR;obtain⟨y1,y2,y3,y4⟩:=oQ.cell;have rd4:∀(e:List AV) (L:List (List AV)),(St.mk e L H).cells (.gp bL gL (nL+4)) 1=some [wQ]:=fun e L=>by
  obtain⟨wrd,_⟩:=wrL H 4 [wQ] v.aq[k] (fX++(fQ++fA)) [] (Aaf _) (fun c hc=>by cases hc) (fun _ _ _ _=>rfl) (by simp) (by simp[y3]) (gB oX oQ oA) nf0 (fun c hc=>.inl hc);exact(wrd e L 4 1).resolve_right (by omega)
 simp only[au,Aaa,Aab,xe,pk,kQ,ot,ag,ae,cb,a1,a2,a3,b1,b2,b3,c1,c2,c3,d1,d2,d3,iL,rd4,y1,y2,y3];refine al.fk (by simp only[EO,y3,y4]) (aI (b9.fk (aB.bO true) oQ) (aI (.same _) aZ)) (fun h=>K8 true v.aq[k].questions hlok.2.1 q h) (.int _ _) ?_;simp only[au,Aaa,Aab,xe,pk,kQ,ot,ag,ae,cb,a1,a2,a3,b1,b2,b3,c1,c2,c3,d1,d2,d3,lE];refine al.val (by simp only[EO]) (gQ _ _ _ _) ?_;rw[fG _ hE];cases e1:bB (iw v.aq[k].questions q) v.entities.length
 ·simp only[au,Aaa,Aab,xe,pk,kQ,ot,ag,ae,cb,a1,a2,a3,b1,b2,b3,c1,c2,c3,d1,d2,d3];have sp:AV.int .i64 (-1)=AV.int .i64 R:=by rw[hRe,if_neg (fun h=>by rw[e1]at h;cases h.1)]
  first|exact⟨⟨rfl,sp⟩,rfl⟩|exact⟨rfl,sp⟩|exact⟨sp,rfl⟩|exact sp
 obtain⟨j,hj,ej,ej2,ej3⟩:=cL e1;obtain⟨bS,gS,nS,row2,fT,iS,rS,lS,oS2,nfT,sT,bmS,bnS,wrS⟩:=o.jY hj;obtain⟨en,hen⟩:∃en,en=v.entities[j]:=⟨_,rfl⟩
 have eE:aD v (iw v.aq[k].questions q)=en:=by rw[ej3,hen]
 rw[←hen]at oS2;obtain⟨wS2,wQ2,wA2,fS2,fQ2,fA2,rfl,rfl,oSS,oQQ,oAA⟩:=c5 oS2;obtain⟨p1,p2,p3,p4⟩:=oSS.cell;obtain⟨q1,q2,q3,q4⟩:=oQQ.cell;obtain⟨r1,r2,r3,r4⟩:=oAA.cell;have iS':fh 12 wE (iw v.aq[k].questions q)=some (.gp bS gS nS):=by rw[ej];exact iS
 by_cases t1:en.kind=2;rotate_left
 ·simp only[au,Aaa,Aab,xe,pk,kQ,ot,ag,ae,cb,a1,a2,a3,b1,b2,b3,c1,c2,c3,d1,d2,d3,iS',rS,p1,p2,p3,q1,q2,q3,r1,r2,r3,aW t1];have sp:AV.int .i64 (-1)=AV.int .i64 R:=by rw[hRe,if_neg (fun h=>t1 (eE▸h.2.1))]
  first|exact⟨⟨rfl,sp⟩,rfl⟩|exact⟨rfl,sp⟩|exact⟨sp,rfl⟩|exact sp
 by_cases t2:en.state=st;rotate_left
 ·simp only[au,Aaa,Aab,xe,pk,kQ,ot,ag,ae,cb,a1,a2,a3,b1,b2,b3,c1,c2,c3,d1,d2,d3,iS',rS,p1,p2,p3,q1,q2,q3,r1,r2,r3,aR t1,aW t2];have sp:AV.int .i64 (-1)=AV.int .i64 R:=by rw[hRe,if_neg (fun h=>t2 (eE▸h.2.2.1))]
  first|exact⟨⟨rfl,sp⟩,rfl⟩|exact⟨rfl,sp⟩|exact⟨sp,rfl⟩|exact sp
 by_cases t3:en.peer=peer;rotate_left
 ·simp only[au,Aaa,Aab,xe,pk,kQ,ot,ag,ae,cb,a1,a2,a3,b1,b2,b3,c1,c2,c3,d1,d2,d3,iS',rS,p1,p2,p3,q1,q2,q3,r1,r2,r3,aR t1,aR t2,aW t3];have sp:AV.int .i64 (-1)=AV.int .i64 R:=by rw[hRe,if_neg (fun h=>t3 (eE▸h.2.2.2.1))]
  first|exact⟨⟨rfl,sp⟩,rfl⟩|exact⟨rfl,sp⟩|exact⟨sp,rfl⟩|exact sp
 by_cases t4:en.pos=q;rotate_left
 ·simp only[au,Aaa,Aab,xe,pk,kQ,ot,ag,ae,cb,a1,a2,a3,b1,b2,b3,c1,c2,c3,d1,d2,d3,iS',rS,p1,p2,p3,q1,q2,q3,r1,r2,r3,aR t1,aR t2,aR t3,aW t4];have sp:AV.int .i64 (-1)=AV.int .i64 R:=by rw[hRe,if_neg (fun h=>t4 (eE▸h.2.2.2.2))]
  first|exact⟨⟨rfl,sp⟩,rfl⟩|exact⟨rfl,sp⟩|exact⟨sp,rfl⟩|exact sp
 simp only[au,Aaa,Aab,xe,pk,kQ,ot,ag,ae,cb,a1,a2,a3,b1,b2,b3,c1,c2,c3,d1,d2,d3,iS',rS,p1,p2,p3,q1,q2,q3,r1,r2,r3,aR t1,aR t2,aR t3,aR t4];have fine:AV.int .i64 (iw v.aq[k].questions q)=AV.int .i64 R:=by rw[hRe,if_pos ⟨e1,by rw[eE];exact t1,by rw[eE];exact t2,by rw[eE];exact t3,by rw[eE];exact t4⟩]
 first|exact⟨⟨rfl,fine⟩,rfl⟩|exact⟨rfl,fine⟩|exact⟨fine,rfl⟩|exact fine
set_option maxHeartbeats 8000000 in
set_option maxRecDepth 100000 in
theorem KX{K:Nat}(v:ar)(g:GI K v)(hK:K+1≤1000)(peer:Int)(hu:rO v.aq peer=true)(q p:Int)(x:an)(H:AH){b:Nat}{f:List Nat}(a:jr H b v f):
 T pQ Γ Fn.kcV [.gp b 0 0,.int .i64 peer,.int .i64 q,.int .i64 p,.agg (x.c false)] H fun r H'=>r=.tup []∧GI (K+1) (ta v peer q p x)∧e9 H b (fun c=>c∈f) H' (ta v peer q p x):=by
 have hvi:=g.vi;have gw:=g.w;obtain⟨wE,w2,wL,w4,fE,f2,fL,f4,rfl,o⟩:=a;have hE:v.entities.length≤1048576:=by have:=hvi.fH;omega
 have hL:v.aq.length≤1048576:=by have:=hvi.aq;omega
 have hb:=o.hb;have blt:=o.blt;have cb:=VO.Cp hb;obtain⟨a1,a2,a3,a4⟩:=o.oE.cell;obtain⟨b1,b2,b3,b4⟩:=o.o2.cell;obtain⟨c1,c2,c3,c4⟩:=o.oL.cell;obtain⟨d1,d2,d3,d4⟩:=o.o4.cell;obtain⟨k,hk,ek,ef⟩:=pM hu;refine kcV_e (aC aG mixed [] _ _ _ ?_);unfold Th;simp only[au,Aaa,Aab,CJ,uR,pL,ot,ag,ae,cb,a1,a2,a3,b1,b2,b3,c1,c2,c3,d1,d2,d3,an.c];refine al.fk (by simp only[EO,a3,b3,c3,d3]) (aI (aM.fk (ar.bO true v) o.own) (aI (.same _) aZ)) (fun h=>yF true v hL peer h) (.int _ _) ?_;rw[ek];obtain⟨bL,gL,nL,row,f0,iL,rL,lR,oR,nf0,sf0,bmL,bnL,wrL⟩:=o.tM hk;have hlok:=hvi.Cu.mono (show wV v+100≤1048576 by omega) _ (Aah hk);obtain⟨wX,wQ,wA,fX,fQ,fA,rfl,rfl,oX,oQ,oA⟩:=ck oR;obtain⟨y1,y2,y3,y4⟩:=oQ.cell;have rd4:∀(e:List AV) (L:List (List AV)),(St.mk e L H).cells (.gp bL gL (nL+4)) 1=some [wQ]:=fun e L=>by
  obtain⟨wrd,_⟩:=wrL H 4 [wQ] v.aq[k] (fX++(fQ++fA)) [] (Aaf _) (fun c hc=>by cases hc) (fun _ _ _ _=>rfl) (by simp) (by simp[y3]) (gB oX oQ oA) nf0 (fun c hc=>.inl hc);exact(wrd e L 4 1).resolve_right (by omega)
 simp only[au,Aaa,Aab,CJ,uR,pL,ot,ag,ae,cb,a1,a2,a3,b1,b2,b3,c1,c2,c3,d1,d2,d3,an.c,iL,rd4,y1,y2,y3];refine al.own (by simp only[EO,y3,y4]) (aI (b9.fk (aB.bO true) oQ) (aI (.same _) aZ)) (fun h=>Sa true v.aq[k].questions hlok.2.1 q h) ?_;rintro w H2 fr;replace fr:aX H _ _ _:=fr;obtain⟨fw,ow,nw,bw,ew⟩:=fr.c1;obtain⟨z1,z2,z3,z4⟩:=ow.cell;refine⟨lG fun r hr=>by
  simp only[Aap,Aak,or_false]at hr;subst hr;exact .inr ⟨_,_,_,rfl,ew.fr b blt⟩,?_⟩
 obtain⟨nX,nQA,dX⟩:=Aac.1 nf0;obtain⟨_,nA,dQ⟩:=Aac.1 nQA;have lt0:=oR.lt;obtain⟨_,H3,f3,s3,l3,r3,a3v,m3⟩:=wrL H2 4 [w] (rG v.aq[k] q) (fX++(fw++fA)) [] ew.len (fun c hc=>by cases hc) (fun c h1 _ _=>ew.fr c h1) (by simp) (by simp[z3])
  (gB (l:=rG v.aq[k] q) (oX.frame fun c hc=>ew.fr c (oX.lt c hc)) ow (oA.frame fun c hc=>ew.fr c (oA.lt c hc)))
  (Aac.2 ⟨nX,Aac.2 ⟨nw,nA,fun x hx y hy e=>by have:=bw x hx;have:=oA.lt y hy;omega⟩,fun x hx y hy e=>by
   rcases Aad.1 hy with s|s
   ·have:=oX.lt x hx;have:=bw y s;omega
   ·exact dX x hx y (by simp[s]) e⟩)
  (fun c hc=>by
   simp only[Aad]at hc ⊢;rcases hc with s|s|s
   ·exact .inl (.inl s)
   ·exact .inr (.inr (bw c s))
   ·exact .inl (.inr (.inr s)))
 have g1:=g.fin hk q;obtain⟨v1,hv1⟩:∃v1,v1=dU v k (rG v.aq[k] q):=⟨_,rfl⟩
 replace a3v:jr H3 b v1 f3:=by rw[hv1];exact a3v
 rw[←hv1]at g1;have l2:=ew.len;have mm3:∀c∈f3,c∈dh fE f2 fL f4∨H.length≤c:=fun c hc=>by
  rcases m3 c hc with⟨s,_⟩|s
  ·exact .inl s
  ·simp only[Aad]at s;rcases s with s|s|s
   ·exact .inl (aO.2 (.inr (.inr (.inl (sf0 c (by simp[s]))))))
   ·exact .inr (bw c s)
   ·exact .inl (aO.2 (.inr (.inr (.inl (sf0 c (by simp[s]))))))
 have rr3:∀c,¬(c∈dh fE f2 fL f4)→c≠b→c<H.length→H3[c]? = H[c]?:=fun c h1 _ h3=>by
  rw[r3 c (fun e=>h1 (e▸aO.2 (.inr (.inr (.inl bmL))))),ew.fr c h3]
 simp only[au,Aaa,Aab,CJ,uR,pL,ot,ag,ae,cb,a1,a2,a3,b1,b2,b3,c1,c2,c3,d1,d2,d3,an.c,iL,z1,z2,z3,s3];refine al.ref rfl (Dp v1 (by have:=g1.vi.aq;omega) (by have:=g1.w;rw[yr]at this;omega) peer (gU 5 q) H3 a3v (sC H3 5 q) Aan (fun c hc=>by cases hc)) ?_;rintro _ H4 ⟨rfl,u4⟩;replace u4:e9 H3 b (fun c=>c∈f3∨c∈[]) H4 _:=u4;have g2:=g1.push peer (gU 5 q) ⟨Aai _,Aai _⟩;obtain⟨v2,hv2⟩:∃v2,v2=e8 v1 peer (gU 5 q):=⟨_,rfl⟩
 rw[←hv2]at g2 u4;obtain⟨f4',a4v,l4,m4,r4⟩:=e9.trans (F:=fun c=>c∈dh fE f2 fL f4) (by omega) mm3 rr3 u4 (fun c hc=>hc.elim .inl fun h=>by cases h);simp only[au,Aaa,Aab,CJ,uR,pL,ot,ag,ae,cb,a1,a2,a3,b1,b2,b3,c1,c2,c3,d1,d2,d3,an.c];refine al.ref rfl (L3 (E5 (mJ v2+1)) v2 p x (Nat.le_succ _) g2.vi (by have:=g2.w;omega) H4 a4v) ?_;rintro _ H5 ⟨rfl,u5⟩;replace u5:e9 H4 b (fun c=>c∈f4') H5 _:=u5;have eV:qJ v peer q=v2:=by
  rw[hv2,hv1,qJ,ib hk ek,sg,ek];rfl
 have fin:GI (K+1) (ta v peer q p x)∧e9 H b (fun c=>c∈dh fE f2 fL f4) H5 (ta v peer q p x):=by
  unfold ta;rw[eV];exact⟨g2.res (by omega) (mJ v2+1) p x,e9.trans l4 m4 r4 u5 (fun c hc=>.inl hc)⟩
 simp only[au,Aaa,Aab,CJ,uR,pL,ot,ag,ae,cb,a1,a2,a3,b1,b2,b3,c1,c2,c3,d1,d2,d3,an.c];first|exact⟨rfl,fin⟩|exact⟨rfl,rfl,fin⟩|exact fin
set_option maxHeartbeats 8000000 in
set_option maxRecDepth 100000 in
theorem Nu{K:Nat}(v:ar)(g:GI K v)(hK:K+1≤1000)(peer:Int)(β:Bool)(m:ah)(hm:m.args.length≤4)(hn:m.name.size≤100)(H:AH){b:Nat}{f:List Nat}(a:jr H b v f):
 T pQ Γ Fn.kcU [.gp b 0 0,.int .i64 peer,.agg (m.c β)] H fun r H'=>r=.tup []∧GI (K+1) (nJ v peer m)∧e9 H b (fun c=>c∈f) H' (nJ v peer m):=by
 obtain⟨R,hR⟩:∃R,R=nJ v peer m:=⟨_,rfl⟩
 rw[←hR];unfold nJ at hR;have hvi:=g.vi;have gw:=g.w;obtain⟨wE,w2,wL,w4,fE,f2,fL,f4,rfl,o⟩:=a;have hE:v.entities.length≤1048576:=by have:=hvi.fH;omega
 have hL:v.aq.length≤1048576:=by have:=hvi.aq;omega
 have hb:=o.hb;have blt:=o.blt;have cb:=VO.Cp hb;obtain⟨a1,a2,a3,a4⟩:=o.oE.cell;obtain⟨b1,b2,b3,b4⟩:=o.o2.cell;obtain⟨c1,c2,c3,c4⟩:=o.oL.cell;obtain⟨d1,d2,d3,d4⟩:=o.o4.cell;have stop:R=v→GI (K+1) R∧e9 H b (fun c=>c∈dh fE f2 fL f4) H R:=fun e=>by rw[e];exact⟨g.mono (by omega),e9.refl o.at fun c hc=>hc⟩
 refine Z1 (aC aG mixed [] _ _ _ ?_);unfold O5;by_cases k1:m.kind=4;rotate_left
 ·simp only[au,Aaa,Aab,xl,oY,kP,ot,ag,ae,ah.c,aJ.c,cb,a1,a2,a3,b1,b2,b3,c1,c2,c3,d1,d2,d3,aW k1];have sp:=stop (by rw[hR,if_neg (fun h=>k1 h.1)]);first|exact⟨rfl,sp⟩|exact⟨rfl,rfl,sp⟩|exact sp
 simp only[au,Aaa,Aab,xl,oY,kP,ot,ag,ae,ah.c,aJ.c,cb,a1,a2,a3,b1,b2,b3,c1,c2,c3,d1,d2,d3,aR k1];refine al.val (by simp only[EO]) (HM β m (by omega) (by omega) _) ?_;cases im:pX m
 ·simp only[au,Aaa,Aab,xl,oY,kP,ot,ag,ae,ah.c,aJ.c,cb,a1,a2,a3,b1,b2,b3,c1,c2,c3,d1,d2,d3];have sp:=stop (by rw[hR,if_neg (fun h=>by rw[im]at h;cases h.2.1)]);first|exact⟨rfl,sp⟩|exact⟨rfl,rfl,sp⟩|exact sp
 simp only[au,Aaa,Aab,xl,oY,kP,ot,ag,ae,ah.c,aJ.c,cb,a1,a2,a3,b1,b2,b3,c1,c2,c3,d1,d2,d3];refine al.fk (by simp only[EO,a3,b3,c3,d3]) (aI (aM.fk (ar.bO true v) o.own) (aI (.same _) aZ)) (fun h=>pg true v hL peer h) (.bool _) ?_;cases hu:rO v.aq peer
 ·simp only[au,Aaa,Aab,xl,oY,kP,ot,ag,ae,ah.c,aJ.c,cb,a1,a2,a3,b1,b2,b3,c1,c2,c3,d1,d2,d3];have sp:=stop (by rw[hR,if_neg (fun h=>by rw[hu]at h;cases h.2.2.1)]);first|exact⟨rfl,sp⟩|exact⟨rfl,rfl,sp⟩|exact sp
 simp only[au,Aaa,Aab,xl,oY,kP,ot,ag,ae,ah.c,aJ.c,cb,a1,a2,a3,b1,b2,b3,c1,c2,c3,d1,d2,d3];refine al.ref (by simp only[EO]) (OO v hvi (by omega) peer hu m.question 4 H o.at) ?_;have hp:=Dj v peer m.question 4;obtain⟨p,hpe⟩:∃p,p=fN v peer m.question 4:=⟨_,rfl⟩
 rw[←hpe]at hp hR ⊢;rintro _ HX ⟨rfl,e⟩;replace e:HX=H:=e;subst e;by_cases hp0:p<0
 ·simp only[au,Aaa,Aab,xl,oY,kP,ot,ag,ae,ah.c,aJ.c,cb,a1,a2,a3,b1,b2,b3,c1,c2,c3,d1,d2,d3,aR hp0];have sp:=stop (by rw[hR,if_neg (fun h=>h.2.2.2 hp0)]);first|exact⟨rfl,sp⟩|exact⟨rfl,rfl,sp⟩|exact sp
 replace hp:=hp.resolve_left hp0;rw[if_pos ⟨k1,im,hu,hp0⟩]at hR;obtain⟨j,hj,ej,ej2,ej3⟩:=cL hp;obtain⟨bS,gS,nS,row2,fT,iS,rS,lS,oS2,nfT,sT,bmS,bnS,wrS⟩:=o.jY hj;obtain⟨en,hen⟩:∃en,en=v.entities[j]:=⟨_,rfl⟩
 rw[←hen]at oS2;obtain⟨wS2,wQ2,wA2,fS2,fQ2,fA2,rfl,rfl,oSS,oQQ,oAA⟩:=c5 oS2;have iS':fh 12 wE p=some (.gp bS gS nS):=by rw[ej];exact iS
 have rd4:∀(e:List AV) (L:List (List AV)),(St.mk e L HX).cells (.gp bS gS (nS+4)) 2=some [.int .i64 en.value.kind,.int .i64 en.value.n]:=fun e L=>by
  obtain⟨wrd,_⟩:=wrS HX 3 [.int .i64 en.state] v.entities[j] (fS2++(fQ2++fA2)) [] (Aaf _) (fun c hc=>by cases hc) (fun _ _ _ _=>rfl) (by simp) rfl (by rw[←hen];exact jo oSS oQQ oAA) nfT (fun c hc=>.inl hc);exact(wrd e L 4 2).resolve_right (by omega)
 simp only[au,Aaa,Aab,xl,oY,kP,ot,ag,ae,ah.c,aJ.c,cb,a1,a2,a3,b1,b2,b3,c1,c2,c3,d1,d2,d3,aW hp0,iS',rd4];refine al.ref (by simp only[EO]) (KX v g hK peer hu m.question p en.value HX o.at) ?_;have eA:aD v p=en:=by rw[ej3,hen]
 rw[eA]at hR;rw[←hR];rintro _ H5 ⟨rfl,fin⟩;simp only[au,Aaa,Aab,xl,oY,kP,ot,ag,ae,ah.c,aJ.c,cb,a1,a2,a3,b1,b2,b3,c1,c2,c3,d1,d2,d3];first|exact⟨rfl,fin⟩|exact⟨rfl,rfl,fin⟩|exact fin
set_option maxHeartbeats 8000000 in
set_option maxRecDepth 100000 in
theorem QZ{K:Nat}(v:ar)(g:GI K v)(hK:K+1≤1000)(peer:Int)(β:Bool)(m:ah)(hm:m.args.length≤4)(hn:m.name.size≤100)(H:AH){b:Nat}{f:List Nat}(a:jr H b v f):
 T pQ Γ Fn.kcX [.gp b 0 0,.int .i64 peer,.agg (m.c β)] H fun r H'=>r=.tup []∧GI (K+1) (ng v peer m)∧e9 H b (fun c=>c∈f) H' (ng v peer m):=by
 obtain⟨R,hR⟩:∃R,R=ng v peer m:=⟨_,rfl⟩
 rw[←hR];unfold ng at hR;have hvi:=g.vi;have gw:=g.w;obtain⟨wE,w2,wL,w4,fE,f2,fL,f4,rfl,o⟩:=a;have hE:v.entities.length≤1048576:=by have:=hvi.fH;omega
 have hL:v.aq.length≤1048576:=by have:=hvi.aq;omega
 have hb:=o.hb;have blt:=o.blt;have cb:=VO.Cp hb;obtain⟨a1,a2,a3,a4⟩:=o.oE.cell;obtain⟨b1,b2,b3,b4⟩:=o.o2.cell;obtain⟨c1,c2,c3,c4⟩:=o.oL.cell;obtain⟨d1,d2,d3,d4⟩:=o.o4.cell;have stop:R=v→GI (K+1) R∧e9 H b (fun c=>c∈dh fE f2 fL f4) H R:=fun e=>by rw[e];exact⟨g.mono (by omega),e9.refl o.at fun c hc=>hc⟩
 refine V5 (aC aG mixed [] _ _ _ ?_);unfold QO;by_cases k1:m.kind=2;rotate_left
 ·simp only[au,Aaa,Aab,rJ,kj,iC,ot,ag,ae,ah.c,aJ.c,cb,a1,a2,a3,b1,b2,b3,c1,c2,c3,d1,d2,d3,aW k1];have sp:=stop (by rw[hR,if_neg (fun h=>k1 h.1)]);first|exact⟨rfl,sp⟩|exact⟨rfl,rfl,sp⟩|exact sp
 simp only[au,Aaa,Aab,rJ,kj,iC,ot,ag,ae,ah.c,aJ.c,cb,a1,a2,a3,b1,b2,b3,c1,c2,c3,d1,d2,d3,aR k1];refine al.val (by simp only[EO]) (HM β m (by omega) (by omega) _) ?_;cases im:pX m
 ·simp only[au,Aaa,Aab,rJ,kj,iC,ot,ag,ae,ah.c,aJ.c,cb,a1,a2,a3,b1,b2,b3,c1,c2,c3,d1,d2,d3];have sp:=stop (by rw[hR,if_neg (fun h=>by rw[im]at h;cases h.2.1)]);first|exact⟨rfl,sp⟩|exact⟨rfl,rfl,sp⟩|exact sp
 simp only[au,Aaa,Aab,rJ,kj,iC,ot,ag,ae,ah.c,aJ.c,cb,a1,a2,a3,b1,b2,b3,c1,c2,c3,d1,d2,d3];refine al.fk (by simp only[EO,a3,b3,c3,d3]) (aI (aM.fk (ar.bO true v) o.own) (aI (.same _) aZ)) (fun h=>pg true v hL peer h) (.bool _) ?_;cases hu:rO v.aq peer
 ·simp only[au,Aaa,Aab,rJ,kj,iC,ot,ag,ae,ah.c,aJ.c,cb,a1,a2,a3,b1,b2,b3,c1,c2,c3,d1,d2,d3];have sp:=stop (by rw[hR,if_neg (fun h=>by rw[hu]at h;cases h.2.2.1)]);first|exact⟨rfl,sp⟩|exact⟨rfl,rfl,sp⟩|exact sp
 simp only[au,Aaa,Aab,rJ,kj,iC,ot,ag,ae,ah.c,aJ.c,cb,a1,a2,a3,b1,b2,b3,c1,c2,c3,d1,d2,d3];refine al.ref (by simp only[EO]) (OO v hvi (by omega) peer hu m.question 3 H o.at) ?_;have hp:=Dj v peer m.question 3;obtain⟨p,hpe⟩:∃p,p=fN v peer m.question 3:=⟨_,rfl⟩
 rw[←hpe]at hp hR ⊢;rintro _ HX ⟨rfl,e⟩;replace e:HX=H:=e;subst e;by_cases hp0:p<0
 ·simp only[au,Aaa,Aab,rJ,kj,iC,ot,ag,ae,ah.c,aJ.c,cb,a1,a2,a3,b1,b2,b3,c1,c2,c3,d1,d2,d3,aR hp0];have sp:=stop (by rw[hR,if_neg (fun h=>h.2.2.2 hp0)]);first|exact⟨rfl,sp⟩|exact⟨rfl,rfl,sp⟩|exact sp
 replace hp:=hp.resolve_left hp0;rw[if_pos ⟨k1,im,hu,hp0⟩]at hR;simp only[au,Aaa,Aab,rJ,kj,iC,ot,ag,ae,ah.c,aJ.c,cb,a1,a2,a3,b1,b2,b3,c1,c2,c3,d1,d2,d3,aW hp0];have ct:=Rn (Γ:=Γ) v hvi (by omega) peer β m.value HX o.at;have F1:=nG v peer m.value;obtain⟨v1,hv1e⟩:∃v1,v1=(gm v peer m.value).1:=⟨_,rfl⟩
 obtain⟨x,hxe⟩:∃x,x=(gm v peer m.value).2:=⟨_,rfl⟩
 rw[←hv1e,←hxe]at ct hR;rw[←hv1e]at F1;refine al.ref (by simp only[EO]) ct ?_;rintro _ H2 ⟨rfl,f1,a1v,l1,m1,r1⟩;replace a1v:jr H2 b v1 f1:=a1v;replace l1:HX.length≤H2.length:=l1;replace r1:∀c,¬(c∈dh fE f2 fL f4)→c≠b→c<HX.length→H2[c]? = HX[c]?:=r1;have g1:=g.fr F1;have hu1:rO v1.aq peer=true:=by rw[F1.aq];exact hu
 have hp1:bB p v1.entities.length=true:=by
  have:=F1.len;simp only[bB,Bool.and_eq_true,decide_eq_true_eq]at hp ⊢;omega
 have finish:∀r H',(r=AV.tup []∧GI (K+1) R∧e9 H2 b (fun c=>c∈f1) H' R)→r=.tup []∧GI (K+1) R∧e9 HX b (fun c=>c∈dh fE f2 fL f4) H' R:=fun r H' h=>by
  obtain⟨rfl,g',u'⟩:=h;exact⟨rfl,g',e9.trans l1 m1 r1 u' (fun c hc=>.inl hc)⟩
 by_cases k2:m.value.kind=2;rotate_left
 ·simp only[au,Aaa,Aab,rJ,kj,iC,ot,ag,ae,ah.c,aJ.c,cb,a1,a2,a3,b1,b2,b3,c1,c2,c3,d1,d2,d3,aW k2,an.c];have cf:=KX (Γ:=Γ) v1 g1 hK peer hu1 m.question p x H2 a1v;rw[show ta v1 peer m.question p x=R by rw[hR,if_neg (fun h=>k2 h.1)]]at cf;refine al.ref (by simp only[EO]) (cf.mono finish) ?_;rintro _ H5 ⟨rfl,fin⟩;simp only[au,Aaa,Aab,rJ,kj,iC,ot,ag,ae,ah.c,aJ.c,cb,a1,a2,a3,b1,b2,b3,c1,c2,c3,d1,d2,d3];first|exact⟨rfl,fin⟩|exact⟨rfl,rfl,fin⟩|exact fin
 obtain⟨j,hj,ej,ej2,ej3⟩:=cL hp1;obtain⟨uE,u2,uL,u4,gE,g2,gL',g4,rfl,oM⟩:=a1v;have hbM:=oM.hb;have cbM:∀(e:List AV) (L:List (List AV)) (off n:Nat),(St.mk e L H2).cells (.gp b 0 off) n=sub [.int .i64 v1.id,uE,u2,uL,u4] off n:=fun e L off n=>b8 hbM;obtain⟨aa1,aa2,aa3,aa4⟩:=oM.oE.cell;obtain⟨bS,gS,nS,row2,fT,iS,rS,lS,oS2,nfT,sT,bmS,bnS,wrS⟩:=oM.jY hj;obtain⟨en,hen⟩:∃en,en=v1.entities[j]:=⟨_,rfl⟩
 rw[←hen]at oS2;obtain⟨wS2,wQ2,wA2,fS2,fQ2,fA2,rfl,rfl,oSS,oQQ,oAA⟩:=c5 oS2;have iS':fh 12 uE p=some (.gp bS gS nS):=by rw[ej];exact iS
 obtain⟨rd,H3,f3,s3,l3,r3,a3v,m3⟩:=wrS H2 3 [.int .i64 4] { en with state:=4 } (fS2++(fQ2++fA2)) [] (Aaf _) (fun c hc=>by cases hc) (fun _ _ _ _=>rfl) (by simp) rfl (by
  have:=jo (e:={ en with state:=4 }) oSS oQQ oAA;exact this) nfT (fun c hc=>.inl hc)
 have rd10:∀(e:List AV) (L:List (List AV)),(St.mk e L H2).cells (.gp bS gS (nS+10)) 1=some [.int .i64 en.count]:=fun e L=>(rd e L 10 1).resolve_right (by omega);have eA:aD v1 p=en:=by rw[ej3,hen]
 by_cases kc:0<en.count;rotate_left
 ·simp only[au,Aaa,Aab,rJ,kj,iC,ot,ag,ae,ah.c,aJ.c,cb,a1,a2,a3,b1,b2,b3,c1,c2,c3,d1,d2,d3,aR k2,an.c,cbM,aa1,aa2,aa3,iS',rd10,show decide (en.count>0)=false from aW kc];have cf:=KX (Γ:=Γ) v1 g1 hK peer hu1 m.question p x H2 oM.at;rw[show ta v1 peer m.question p x=R by rw[hR,if_neg (fun h=>kc (eA▸h.2))]]at cf;refine al.ref (by simp only[EO]) (cf.mono finish) ?_;rintro _ H5 ⟨rfl,fin⟩;simp only[au,Aaa,Aab,rJ,kj,iC,ot,ag,ae,ah.c,aJ.c,cb,a1,a2,a3,b1,b2,b3,c1,c2,c3,d1,d2,d3];first|exact⟨rfl,fin⟩|exact⟨rfl,rfl,fin⟩|exact fin
 have eA:aD v1 p=en:=by rw[ej3,hen]
 have gE1:=gZ g1.vi p;rw[eA]at gE1;have g2':=g1.cT hp1 { en with state:=4 } (by rw[eA];rfl) gE1;have ev2:({ v1 with entities:=v1.entities.set j { en with state:=4 } }:ar)=cT v1 p.toNat { en with state:=4 }:=by rw[cT,ej2]
 rw[ev2]at a3v;obtain⟨v2,hv2⟩:∃v2,v2=cT v1 p.toNat { en with state:=4 }:=⟨_,rfl⟩
 have len2:v2.entities.length=v1.entities.length:=by rw[hv2,js]
 have at2:aD v2 p={ en with state:=4 }:=by
  rw[hv2,aD,cT];simp[List.getD_eq_getElem?_getD,ej2,hj]
 rw[←hv2]at a3v g2';have hp2:bB p v2.entities.length=true:=by rw[len2];exact hp1
 have up3:e9 H2 b (fun c=>c∈dh gE g2 gL' g4) H3 v2:=⟨f3,a3v,by omega,fun c hc=>by
  rcases m3 c hc with⟨s,_⟩|s
  ·exact .inl s
  ·exact .inl (aO.2 (.inl (sT c s))),fun c h1 _ _=>r3 c (fun e=>h1 (e▸aO.2 (.inl bmS)))⟩
 clear a3v m3 r3;obtain⟨f3,⟨tE,t2,tL,t4,hE',h2',hL',h4',rfl,oT⟩,l3',m3,r3⟩:=up3;obtain⟨j',hj',ej',ej2',ej3'⟩:=cL hp2;obtain⟨bV,gV,nV,rowV,fV,iV,rV,lV,oV,nfV,sV,bmV,bnV,wrV⟩:=oT.jY hj';rw[←ej3',at2]at oV;obtain⟨wS3,wQ3,wA3,fS3,fQ3,fA3,rfl,rfl,oS3,oQ3,oA3⟩:=c5 oV;have hbT:=oT.hb;have cbT:∀(e:List AV) (L:List (List AV)) (off n:Nat),(St.mk e L H3).cells (.gp b 0 off) n=sub [.int .i64 v2.id,tE,t2,tL,t4] off n:=fun e L off n=>b8 hbT;obtain⟨bb1,bb2,bb3,bb4⟩:=oT.oE.cell;have iV':fh 12 tE p=some (.gp bV gV nV):=by rw[ej'];exact iV
 obtain⟨_,H4,f4',s4,l4,r4,a4v,m4⟩:=wrV H3 4 [.int .i64 x.kind,.int .i64 x.n] { en with state:=4,value:=x } (fS3++(fQ3++fA3)) [] (Aaf _) (fun c hc=>by cases hc) (fun _ _ _ _=>rfl) (by simp) rfl (by
  have:=jo (e:={ en with state:=4,value:=x }) oS3 oQ3 oA3;exact this) nfV (fun c hc=>.inl hc)
 have g3:=g2'.cT hp2 { en with state:=4,value:=x } (by rw[at2];rfl) gE1;have ev3:({ v2 with entities:=v2.entities.set j' { en with state:=4,value:=x } }:ar)=cT v2 p.toNat { en with state:=4,value:=x }:=by rw[cT,ej2']
 rw[ev3]at a4v;obtain⟨v3,hv3⟩:∃v3,v3=cT v2 p.toNat { en with state:=4,value:=x }:=⟨_,rfl⟩
 rw[←hv3]at a4v g3;have up4:e9 H3 b (fun c=>c∈dh hE' h2' hL' h4') H4 v3:=⟨f4',a4v,by omega,fun c hc=>by
  rcases m4 c hc with⟨s,_⟩|s
  ·exact .inl s
  ·exact .inl (aO.2 (.inl (sV c s))),fun c h1 _ _=>r4 c (fun e=>h1 (e▸aO.2 (.inl bmV)))⟩
 clear a4v m4 r4;obtain⟨f5,a5v,l5,m5,r5⟩:=e9.trans (F:=fun c=>c∈dh gE g2 gL' g4) l3' m3 r3 up4 (fun c hc=>.inl hc);simp only[au,Aaa,Aab,rJ,kj,iC,ot,ag,ae,ah.c,aJ.c,cb,a1,a2,a3,b1,b2,b3,c1,c2,c3,d1,d2,d3,aR k2,an.c,cbM,aa1,aa2,aa3,iS',rd10,show decide (en.count>0)=true from aR kc,s3,cbT,bb1,bb2,bb3,iV',s4];refine al.ref rfl (Dp v3 (by have:=g3.vi.aq;omega) (by have:=g3.w;rw[yr]at this;omega) peer (gU 3 m.question) H4 a5v (sC H4 3 m.question) Aan (fun c hc=>by cases hc)) ?_;rintro _ H6 ⟨rfl,u6⟩;replace u6:e9 H4 b (fun c=>c∈f5∨c∈[]) H6 _:=u6;have g4':=g3.push peer (gU 3 m.question) ⟨Aai _,Aai _⟩;have eR:R=e8 v3 peer (gU 3 m.question):=by
  rw[hR,if_pos ⟨k2,by rw[eA];exact kc⟩,eA,hv3,hv2,zg];rfl
 obtain⟨_,fin⟩:=finish (.tup []) H6 (by rw[eR];exact⟨rfl,g4',e9.trans l5 m5 r5 u6 (fun c hc=>hc.elim .inl fun h=>by cases h)⟩);simp only[au,Aaa,Aab,rJ,kj,iC,ot,ag,ae,ah.c,aJ.c,cb,a1,a2,a3,b1,b2,b3,c1,c2,c3,d1,d2,d3];first|exact⟨rfl,fin⟩|exact⟨rfl,rfl,fin⟩|exact fin
def nz(v:ar)(peer:Int)(m:ah):ar:=dU (dv v (ny peer m.question)) (sg v peer) (vI (fJ v peer) m.question (v.entities.length:Int))
def vy(v:ar)(peer:Int)(m:ah):aK:=⟨px v peer m,m.name,(lZ (nz v peer m) peer m.args).2,(v.entities.length:Int),m.tag⟩
def km(v:ar)(peer:Int)(m:ah):ar:=
 if m.kind=1∧pX m=true∧rO v.aq peer=true∧((fJ v peer).answers.any fun q=>q.id == m.question)=false then
  (if pK (fJ v peer) m=true∨200≤v.entities.length then e8 v peer (od m.question ⟨3,0⟩)
  else aT (mJ (lZ (nz v peer m) peer m.args).1+1) (lZ (nz v peer m) peer m.args).1 (vy v peer m))
 else v
set_option maxHeartbeats 8000000 in
set_option maxRecDepth 100000 in
theorem PH{K:Nat}(v:ar)(g:GI K v)(hK:K+10≤100)(peer:Int)(β:Bool)(m:ah)(hm:m.args.length≤4)(hn:m.name.size≤100)(H:AH){b:Nat}{f:List Nat}(a:jr H b v f):
 T pQ Γ Fn.kcM [.gp b 0 0,.int .i64 peer,.agg (m.c β)] H fun r H'=>r=.tup []∧GI (K+10) (km v peer m)∧e9 H b (fun c=>c∈f) H' (km v peer m):=by
 obtain⟨R,hR⟩:∃R,R=km v peer m:=⟨_,rfl⟩
 rw[←hR];unfold km at hR;have hvi:=g.vi;have gw:=g.w;have hvok:v.ok 1048576:=hvi.Gt.mono (by omega);obtain⟨wE,w2,wL,w4,fE,f2,fL,f4,rfl,o⟩:=a;have hE:v.entities.length≤1048576:=by have:=hvi.fH;omega
 have hL:v.aq.length≤1048576:=by have:=hvi.aq;omega
 have hb:=o.hb;have blt:=o.blt;have cb:=VO.Cp hb;obtain⟨a1,a2,a3,a4⟩:=o.oE.cell;obtain⟨b1,b2,b3,b4⟩:=o.o2.cell;obtain⟨c1,c2,c3,c4⟩:=o.oL.cell;obtain⟨d1,d2,d3,d4⟩:=o.o4.cell;have stop:R=v→GI (K+10) R∧e9 H b (fun c=>c∈dh fE f2 fL f4) H R:=fun e=>by rw[e];exact⟨g.mono (by omega),e9.refl o.at fun c hc=>hc⟩
 refine W4 (aC aG mixed [] _ _ _ ?_);unfold Sv;by_cases k1:m.kind=1;rotate_left
 ·simp only[au,Aaa,Aab,nu,gC,gG,gD,gJ,eB,dY,eC,eu,A3,ah.c,ag,ae,aW k1];have sp:=stop (by rw[hR,if_neg (fun h=>k1 h.1)]);first|exact⟨rfl,sp⟩|exact⟨rfl,rfl,sp⟩|exact sp
 simp only[au,Aaa,Aab,nu,gC,gG,gD,gJ,eB,dY,eC,eu,A3,ah.c,ag,ae,aR k1];refine al.val (by simp only[EO]) (HM β m (by omega) (by omega) _) ?_;obtain⟨H1,hH1⟩:∃H1,H1=H:=⟨_,rfl⟩
 subst hH1;cases im:pX m
 ·simp only[au,Aaa,Aab,nu,gC,gG,gD,gJ,eB,dY,eC,eu,A3,ah.c,ag,ae];have sp:=stop (by rw[hR,if_neg (fun h=>by rw[im]at h;cases h.2.1)]);first|exact⟨rfl,sp⟩|exact⟨rfl,rfl,sp⟩|exact sp
 simp only[au,Aaa,Aab,nu,gC,gG,gD,gJ,eB,dY,eC,eu,A3,ah.c,ag,ae,cb,a1,a2,a3,b1,b2,b3,c1,c2,c3,d1,d2,d3];refine al.fk (by simp only[EO,a3,b3,c3,d3]) (aI (aM.fk (ar.bO true v) o.own) (aI (.same _) aZ)) (fun h=>pg true v hL peer h) (.bool _) ?_;cases hu:rO v.aq peer
 ·simp only[au,Aaa,Aab,nu,gC,gG,gD,gJ,eB,dY,eC,eu,A3,ah.c,ag,ae];have sp:=stop (by rw[hR,if_neg (fun h=>by rw[hu]at h;cases h.2.2.1)]);first|exact⟨rfl,sp⟩|exact⟨rfl,rfl,sp⟩|exact sp
 obtain⟨k,hk,ek,ef⟩:=pM hu;simp only[au,Aaa,Aab,nu,gC,gG,gD,gJ,eB,dY,eC,eu,A3,ah.c,ag,ae,cb,a1,a2,a3,b1,b2,b3,c1,c2,c3,d1,d2,d3];refine al.fk (by simp only[EO,a3,b3,c3,d3]) (aI (aM.fk (ar.bO true v) o.own) (aI (.same _) aZ)) (fun h=>yF true v hL peer h) (.int _ _) ?_;rw[ek];obtain⟨bL,gL,nL,row,f0,iL,rL,lR,oR,nf0,sf0,bmL,bnL,wrL⟩:=o.tM hk;have hlok:=hvi.Cu.mono (show wV v+100≤1048576 by omega) _ (Aah hk);obtain⟨wX,wQ,wA,fX,fQ,fA,rfl,rfl,oX,oQ,oA⟩:=ck oR;obtain⟨x1,x2,x3,x4⟩:=oX.cell;obtain⟨y1,y2,y3,y4⟩:=oQ.cell;obtain⟨z1,z2,z3,z4⟩:=oA.cell;have rd6:∀(e:List AV) (L:List (List AV)),(St.mk e L H1).cells (.gp bL gL (nL+6)) 1=some [wA]:=fun e L=>by
  obtain⟨wrd,_⟩:=wrL H1 6 [wA] v.aq[k] (fX++(fQ++fA)) [] (Aaf _) (fun c hc=>by cases hc) (fun _ _ _ _=>rfl) (by simp) (by simp[z3]) (gB oX oQ oA) nf0 (fun c hc=>.inl hc);exact(wrd e L 6 1).resolve_right (by omega)
 simp only[au,Aaa,Aab,nu,gC,gG,gD,gJ,eB,dY,eC,eu,A3,ah.c,ag,ae,cb,a1,a2,a3,b1,b2,b3,c1,c2,c3,d1,d2,d3,iL,rd6,z1,z2,z3];refine al.fk (by simp only[EO,z3,z4]) (aI (b9.fk (aB.bO true) oA) (aI (.same _) aZ)) (fun h=>S9 true v.aq[k].answers hlok.2.2 m.question h) (.bool _) ?_;cases hh:v.aq[k].answers.any fun q=>q.id == m.question;rotate_left
 ·simp only[au,Aaa,Aab,nu,gC,gG,gD,gJ,eB,dY,eC,eu,A3,ah.c,ag,ae];have sp:=stop (by rw[hR,if_neg (fun h=>by rw[ib hk ek,hh]at h;cases h.2.2.2)]);first|exact⟨rfl,sp⟩|exact⟨rfl,rfl,sp⟩|exact sp
 rw[if_pos ⟨k1,im,hu,by rw[ib hk ek];exact hh⟩,ib hk ek]at hR;simp only[au,Aaa,Aab,nu,gC,gG,gD,gJ,eB,dY,eC,eu,A3,ah.c,ag,ae,cb,a1,a2,a3,b1,b2,b3,c1,c2,c3,d1,d2,d3];refine al.fk (by simp only[EO,a3,b3,c3,d3]) (aI (aM.fk (ar.bO true v) o.own) (aI (.same _) (aI (.same _) aZ))) (fun h=>kco_T true β v hvok peer m h) (.int _ _) ?_;simp only[au,Aaa,Aab,nu,gC,gG,gD,gJ,eB,dY,eC,eu,ot,ah.c,ag,ae,cb,a1,a2,a3,b1,b2,b3,c1,c2,c3,d1,d2,d3,iL,rL,x1,x2,x3,y1,y2,y3,z1,z2,z3];obtain⟨HA,hHA⟩:∃HA:AH,HA=H1++[some (0,[.int .i64 peer,.int .i64 m.question])]:=⟨_,rfl⟩
 simp only[←hHA];have lHA:HA.length=H1.length+1:=by rw[hHA];simp
 have frA:∀c,c<H1.length→HA[c]? = H1[c]?:=fun c hc=>by rw[hHA];exact Aae hc
 have oN:VO HA b v wE w2 wL w4 fE f2 fL f4:=o.frame fun c hc=>frA c (by rcases hc with g|g;exact o.lt c g;rw[g];exact blt);have oAsk:b9 HA (.gs H1.length 0 0 1 1 2 true) (.sl 2 ((ny peer m.question).askers.map cj.cd)) [H1.length]:=by rw[hHA];exact xQ H1 rfl (.i (.i .nil))
 clear hHA iL bmL rL lR oR nf0 sf0 bnL wrL rd6 x1 x2 x3 x4 y1 y2 y3 y4 z1 z2 z3 z4 oX oQ oA hh;have hbN:=oN.hb;have cbN:∀(e:List AV) (L:List (List AV)) (off n:Nat),(St.mk e L HA).cells (.gp b 0 off) n=sub [.int .i64 v.id,wE,w2,wL,w4] off n:=fun e L off n=>b8 hbN;obtain⟨bL,gL,nL,row,f0,iL,rL,lR,oR,nf0,sf0,bmL,bnL,wrL⟩:=oN.tM hk;obtain⟨wX,wQ,wA,fX,fQ,fA,rfl,rfl,oX,oQ,oA⟩:=ck oR;obtain⟨x1,x2,x3,x4⟩:=oX.cell;obtain⟨y1,y2,y3,y4⟩:=oQ.cell;obtain⟨z1,z2,z3,z4⟩:=oA.cell;simp only[au,Aaa,Aab,nu,gC,gG,gD,gJ,eB,dY,eC,eu,ot,ah.c,ag,ae,cbN,a1,a2,a3,b1,b2,b3,c1,c2,c3,d1,d2,d3,iL,rL,x1,x2,x3,y1,y2,y3,z1,z2,z3];refine al.fk (by simp only[EO,x3,y3,z3]) (aI (aM.fk (aF.bO true v.aq[k]) oR) (aI (.same _) aZ)) (fun h=>Wa true β v.aq[k] hlok m h) (.bool _) ?_;have pushed:R=e8 v peer (od m.question ⟨3,0⟩)→∀(H3:AH) (fz:List Nat),jr H3 b v fz→(∀c∈fz,c∈dh fE f2 fL f4∨H1.length≤c)→HA.length≤H3.length→(∀c,c∉dh fE f2 fL f4→c≠b→c<HA.length→c≠H1.length→H3[c]? = HA[c]?)→T pQ Γ Fn.TL [.gp b 0 0,.int .i64 peer,.agg [.int .i64 2,.int .i64 0,.int .i64 0,.int .i64 m.question,.str ⟨#[]⟩,.nils,.int .i64 3,.int .i64 0,.int .i64 0,.int .i64 0,.int .i64 0,.int .i64 0]] H3 fun r H'=>r=.tup []∧GI (K+10) R∧e9 H1 b (fun c=>c∈dh fE f2 fL f4) H' R:=fun eR H3 fz az mz lz rz=>by
  refine(Dp v hL (by rw[yr]at gw;omega) peer (od m.question ⟨3,0⟩) H3 az (.i (.i (.i (.i (.s (.o (.nil _) (.i (.i (.i (.i (.i (.i .nil)))))))))))) Aan (fun c hc=>by cases hc)).mono ?_;rintro r H' ⟨rfl,f5,a5,l5,m5,r5⟩;rw[eR];refine⟨rfl,(g.push peer (od m.question ⟨3,0⟩) ⟨Aai _,Aai _⟩).mono (by omega),f5,a5,by omega,fun c hc=>?_,fun c h1 h2 h3=>?_⟩
  ·rcases m5 c hc with(q|q)|q
   ·rcases mz c q with s|s
    ·exact .inl s
    ·exact .inr (by omega)
   ·cases q
   ·exact .inr (by omega)
  ·rw[r5 c (fun h=>by
    rcases h with q|q
    ·rcases mz c q with s|s
     ·exact h1 s
     ·omega
    ·cases q) h2 (by omega),rz c h1 h2 (by omega) (by omega),frA c h3]
 cases st:pK v.aq[k] m;rotate_left
 ·simp only[au,Aaa,Aab,nu,gC,gG,gD,gJ,eB,dY,eC,eu,ot,ah.c,ag,ae,cbN,show decide ((-1:Int)<0)=true from rfl];refine al.ref rfl (pushed (by rw[hR,if_pos (.inl st)]) HA _ oN.at (fun c hc=>.inl hc) (Aaf _) (fun _ _ _ _ _=>rfl)) ?_;rintro _ H2 ⟨rfl,fin⟩;simp only[au,Aaa,Aab,nu,gC,gG,gD,gJ,eB,dY,eC,eu,ot,ah.c,ag,ae];first|exact⟨rfl,fin⟩|exact⟨rfl,rfl,fin⟩|exact fin
 simp only[au,Aaa,Aab,nu,gC,gG,gD,gJ,eB,dY,eC,eu,ot,ah.c,ag,ae,cbN];refine al.ref rfl (Lc v (ny peer m.question) HA oN.at (fm:=[H1.length]) (jo (e:=ny peer m.question) (.nil _) (.nil _) oAsk) (by simp) (fun c hc=>by
  rw[Aag.1 hc];exact⟨fun q=>by have:=o.lt _ q;omega,by omega⟩)) ?_
 rintro _ H2 ⟨rfl,f2',aN,l2,m2,r2⟩;replace aN:jr H2 b (dv v (ny peer m.question)) f2':=aN;replace l2:HA.length≤H2.length:=l2;replace m2:∀c∈f2',(c∈dh fE f2 fL f4∨c∈[H1.length])∨HA.length≤c:=m2;replace r2:∀c,¬(c∈dh fE f2 fL f4∨c∈[H1.length])→c≠b→c<HA.length→H2[c]? = HA[c]?:=r2;by_cases hfull:200≤v.entities.length
 ·have e1:dv v (ny peer m.question)=v:=by rw[dv,if_pos hfull]
  have e2:k8 v = -1:=by rw[k8,if_pos hfull]
  rw[e1]at aN;rw[e2];simp only[au,Aaa,Aab,nu,gC,gG,gD,gJ,eB,dY,eC,eu,ot,ah.c,ag,ae,show decide ((-1:Int)<0)=true from rfl];have P:=pushed (by rw[hR,if_pos (.inr hfull)]) H2 _ aN (fun c hc=>by
   rcases m2 c hc with(q|q)|q
   ·exact .inl q
   ·rw[Aag.1 q];exact .inr (Aaf _)
   ·exact .inr (by omega)) l2 (fun c h1 h2 h3 h4=>r2 c (fun h=>h.elim h1 fun q=>h4 (Aag.1 q)) h2 h3)
  refine al.ref rfl P ?_;rintro _ H3 ⟨rfl,fin⟩;simp only[au,Aaa,Aab,nu,gC,gG,gD,gJ,eB,dY,eC,eu,ot,ah.c,ag,ae];first|exact⟨rfl,fin⟩|exact⟨rfl,rfl,fin⟩|exact fin
 have e1:dv v (ny peer m.question)={ v with entities:=v.entities++[ny peer m.question] }:=by rw[dv,if_neg hfull]
 have e2:k8 v=(v.entities.length:Int):=by rw[k8,if_neg hfull]
 rw[e2];rw[if_neg (fun h=>by rcases h with h|h;rw[st]at h;cases h;exact hfull h)]at hR;obtain⟨ck1,ck2,ck3,ck4⟩:=G2 g hK (by omega) peer m.question (v.entities.length:Int) hk;obtain⟨v1,hv1⟩:∃v1,v1=dv v (ny peer m.question):=⟨_,rfl⟩
 have lk1:v1.aq=v.aq:=by rw[hv1,e1]
 rw[←hv1]at aN ck1 ck2 ck3 ck4;simp only[au,Aaa,Aab,nu,gC,gG,gD,gJ,eB,dY,eC,eu,ot,ah.c,ag,ae,show decide ((v.entities.length:Int)<0)=false from aW (by omega)];obtain⟨uE,u2,uL,u4,gE,g2,gL',g4,rfl,oM⟩:=aN;have hk1:k<v1.aq.length:=by rw[lk1];exact hk
 have hbM:=oM.hb;have cbM:∀(e:List AV) (L:List (List AV)) (off n:Nat),(St.mk e L H2).cells (.gp b 0 off) n=sub [.int .i64 v1.id,uE,u2,uL,u4] off n:=fun e L off n=>b8 hbM;obtain⟨j1,j2,j3,j4⟩:=oM.oL.cell;obtain⟨bP,gP,nP,rowP,fP0,iP,rP,lP,oRP,nfP,sfP,bmP,bnP,wrP⟩:=oM.tM hk1;obtain⟨wX',wQ',wA',fX',fQ',fA',rfl,rfl,oX',oQ',oA'⟩:=ck oRP;obtain⟨z1',z2',z3',z4'⟩:=oA'.cell;have rd6:∀(e:List AV) (L:List (List AV)),(St.mk e L H2).cells (.gp bP gP (nP+6)) 1=some [wA']:=fun e L=>by
  obtain⟨wrd,_⟩:=wrP H2 6 [wA'] v1.aq[k] (fX'++(fQ'++fA')) [] (Aaf _) (fun c hc=>by cases hc) (fun _ _ _ _=>rfl) (by simp) (by simp[z3']) (gB oX' oQ' oA') nfP (fun c hc=>.inl hc);exact(wrd e L 6 1).resolve_right (by omega)
 have nA':fA'.Nodup:=(Aac.1 (Aac.1 nfP).2.1).2.1;have hans:v1.aq[k].answers.length≤100:=by
  have:=g.vi.ans v.aq[k] (Aah hk);simpa only[lk1]using this
 obtain⟨vA,H3,fA3,ea,oA3,nA3,fr3,l3,m3⟩:=df (bytes:=16) oA' (ys:=[.int .i64 m.question,.int .i64 (v.entities.length:Int)]) (row:=[.i .i64 m.question,.i .i64 (v.entities.length:Int)]) (f2:=[]) (by simpa using nA') (by omega) rfl (.i (.i .nil)) (by simp only[Aaj,aU];omega);simp only[au,Aaa,Aab,nu,gC,gG,gD,gJ,eB,dY,eC,eu,ot,ah.c,ag,ae,cbM,j1,j2,j3,iP,rd6,z1',z2',z3',ea];have bf:=o.bf;have bltM:=oM.blt;have bfM:=oM.bf;have sP:∀c∈fX'++(fQ'++fA'),c∈dh gE g2 gL' g4:=fun c hc=>aO.2 (.inr (.inr (.inl (sfP c hc))));have bA':b∉fA':=fun h=>bfM (sP b (by simp[h]));refine⟨lG fun r hr=>by
  simp only[Aap,Aak,or_false]at hr;subst hr;exact .inr ⟨b,0,3,rfl,by rw[fr3 b bA' bltM,Aae bltM]⟩,?_⟩
 obtain⟨nX1,nQA,dX1⟩:=Aac.1 nfP;obtain⟨nQ1,_,dQ1⟩:=Aac.1 nQA;have ltP:=oRP.lt;have hlk:v1.aq[k]=v.aq[k]:=by simp only[lk1]
 obtain⟨zz1,zz2,zz3,zz4⟩:=oA3.cell;have m3':∀c∈fA3,c∈fA'∨H2.length≤c:=fun c hc=>by
  rcases m3 c hc with g|g|g
  ·exact .inl g
  ·cases g
  ·exact .inr g
 obtain⟨_,H4,f4',s4,l4,r4,a4',m4⟩:=wrP H3 6 [vA] (vI v1.aq[k] m.question (v.entities.length:Int)) (fX'++(fQ'++fA3)) [] l3 (fun c hc=>by cases hc) (fun c h1 h2 _=>fr3 c (fun g=>h2 (by simp[g])) h1) (by simp) (by simp[zz3])
  (gB (l:=vI v1.aq[k] m.question (v.entities.length:Int)) (oX'.frame fun c hc=>fr3 c (fun g=>dX1 c hc c (by simp[g]) rfl) (ltP c (by simp[hc]))) (oQ'.frame fun c hc=>fr3 c (fun g=>dQ1 c hc c g rfl) (ltP c (by simp[hc]))) (show b9 H3 vA (.sl 2 ((v1.aq[k].answers++[(⟨m.question,(v.entities.length:Int)⟩:aB)]).map aB.cd)) fA3 by rw[Aal];exact oA3))
  (Aac.2 ⟨nX1,Aac.2 ⟨nQ1,nA3,fun x hx y hy e=>by
   subst e;rcases m3' x hy with g|g
   ·exact dQ1 x hx x g rfl
   ·have:=ltP x (by simp[hx]);omega⟩,fun x hx y hy e=>by
   subst e;rcases Aad.1 hy with q|q
   ·exact dX1 x hx x (by simp[q]) rfl
   ·rcases m3' x q with g|g
    ·exact dX1 x hx x (by simp[g]) rfl
    ·have:=ltP x (by simp[hx]);omega⟩)
  (fun c hc=>by
   simp only[Aad]at hc ⊢;rcases hc with g|g|g
   ·exact .inl (.inl g)
   ·exact .inl (.inr (.inl g))
   ·rcases m3' c g with q|q
    ·exact .inl (.inr (.inr q))
    ·exact .inr (.inr q))
 have a4k:jr H4 b (dU v1 k (vI v.aq[k] m.question (v.entities.length:Int))) f4':=by rw[←hlk];exact a4'
 obtain⟨v2,hv2⟩:∃v2,v2=dU v1 k (vI v.aq[k] m.question (v.entities.length:Int)):=⟨_,rfl⟩
 have eW:nz v peer m=v2:=by rw[hv2,hv1,nz,ib hk ek,sg,ek];rfl
 rw[vy,eW]at hR;rw[←hv2]at a4k ck1 ck2 ck3 ck4;clear a4';simp only[au,Aaa,Aab,nu,gC,gG,gD,gJ,eB,dY,eC,eu,ot,ah.c,ag,ae,zz1,zz2,zz3,s4];refine al.ref (by simp only[EO]) (U1 v2 ck1 (by omega) peer β m.args (by omega) H4 a4k) ?_;rintro w H5 ⟨v3,xs,fx,f5,eX,F3,ox,nx,lx,a5,l5,m5,mx,r5⟩;rw[←eX]at hR;simp only at hR;replace ox:b9 H5 w _ fx:=ox;replace a5:jr H5 b v3 f5:=a5;replace l5:H4.length≤H5.length:=l5;replace r5:∀c,c∉f4'→c≠b→c<H4.length→H5[c]? = H4[c]?:=r5;obtain⟨w1,w2',w3,w4'⟩:=ox.cell;simp only[au,Aaa,Aab,nu,gC,gG,gD,gJ,eB,dY,eC,eu,ot,ah.c,ag,ae,w1,w2',w3];have vi3:=F3.vi ck1;have os:=tJ (H:=H5) (s:=⟨px v peer m,m.name,xs,(v.entities.length:Int),m.tag⟩) ox;have blt4:b<H4.length:=by omega
 refine al.ref (by simp only[EO,w3,w4']) (E5 (mJ v3+1) v3 ⟨px v peer m,m.name,xs,(v.entities.length:Int),m.tag⟩ H5 b f5 _ fx (Nat.lt_succ_self _) vi3 ⟨hn,by show xs.length≤100;omega⟩ (by show wV v3+2+xs.length≤500000;rw[F3.w];omega) a5 os nx (fun c hc=>⟨(mx c hc).2,fun e=>by have:=(mx c hc).1;omega⟩)) ?_;rintro _ H6 ⟨rfl,f6,a6,l6,m6,r6⟩;replace a6:jr H6 b _ f6:=a6;replace l6:H5.length≤H6.length:=l6;replace m6:∀c∈f6,(c∈f5∨c∈fx)∨H5.length≤c:=m6;replace r6:∀c,¬(c∈f5∨c∈fx)→c≠b→c<H5.length→H6[c]? = H5[c]?:=r6;have t2:∀c∈dh gE g2 gL' g4,c∈dh fE f2 fL f4∨H1.length≤c:=fun c hc=>by
  rcases m2 c hc with(q|q)|q
  ·exact .inl q
  ·rw[Aag.1 q];exact .inr (Aaf _)
  ·exact .inr (by omega)
 have t4:∀c∈f4',c∈dh fE f2 fL f4∨H1.length≤c:=fun c hc=>by
  rcases m4 c hc with⟨q,_⟩|q
  ·exact t2 c q
  ·simp only[Aad]at q;rcases q with q|q|q
   ·exact t2 c (sP c (by simp[q]))
   ·exact t2 c (sP c (by simp[q]))
   ·rcases m3' c q with s|s
    ·exact t2 c (sP c (by simp[s]))
    ·exact .inr (by omega)
 have t5:∀c∈f5,c∈dh fE f2 fL f4∨H1.length≤c:=fun c hc=>by
  rcases m5 c hc with q|q
  ·exact t4 c q
  ·exact .inr (by omega)
 have tx:∀c∈fx,c∈dh fE f2 fL f4∨H1.length≤c:=fun c hc=>.inr (by have:=(mx c hc).1;omega);have no:∀{l:List Nat} {c:Nat},(∀c∈l,c∈dh fE f2 fL f4∨H1.length≤c)→c∉dh fE f2 fL f4→c<H1.length→c∉l:=fun h h1 h2 g=>(h _ g).elim h1 fun q=>by omega
 have fin:GI (K+10) R∧e9 H1 b (fun c=>c∈dh fE f2 fL f4) H6 R:=by
  rw[hR];refine⟨GI.aac vi3 (by rw[F3.w];exact ck2) (ck3.fr F3) (Nat.lt_of_lt_of_le ck4 F3.len) hK _ ⟨hn,by show xs.length≤100;omega⟩ (by show xs.length≤4;omega),f6,a6,by omega,fun c hc=>?_,fun c h1 h2 h3=>?_⟩
  ·rcases m6 c hc with(q|q)|q
   ·exact t5 c q
   ·exact tx c q
   ·exact .inr (by omega)
  ·rw[r6 c (fun h=>h.elim (no t5 h1 h3) (no tx h1 h3)) h2 (by omega),r5 c (no t4 h1 h3) h2 (by omega),r4 c (fun e=>no t2 h1 h3 (e▸aO.2 (.inr (.inr (.inl bmP))))),fr3 c (fun g=>no t2 h1 h3 (sP c (by simp[g]))) (by omega),r2 c (fun h=>h.elim h1 fun q=>by rw[Aag.1 q]at h3;omega) h2 (by omega),frA c h3]
 simp only[au,Aaa,Aab,nu,gC,gG,gD,gJ,eB,dY,eC,eu,ot,ah.c,ag,ae];first|exact⟨rfl,fin⟩|exact⟨rfl,rfl,fin⟩|exact fin
theorem Np{α:Type}(s:St)(β:Bool)(sz:Nat)(l:List α)(c:α→List AV){k:Nat}(hk:k≤l.length):Cd (.sl sz) s (.vs β sz false (l.map c)) (.int .i64 k)=.val (.vs β sz false ((l.take k).map c)) s:=by
 have e:qM (.int .i64 (k:Int))=some k:=by simp[qM,JC]
 simp only[Cd,e,pO];simp[AR.nD,List.map_take,hk]
set_option maxHeartbeats 1000000 in
theorem kcl_T(β:Bool)(l:aF)(hl:l.ok 1048576)(pos c:Int)(h:AH):T pQ Γ Fn.kcl [.agg (l.c β),.int .i64 pos,.int .i64 c] h (aX h [.a (qo l pos c).cd]):=by
 have hle:=hl.1;have L0:=eY β 3 false l.exports (aE.c β);refine T.jJ ?_;refine Us (aC aG mixed [] _ _ _ ?_);unfold P7;simp only[au,Aaa,Aab,xk,py,kK,cK,ER,aF.c];refine al.ref (by simp only[EO]) (It β l hl _) ?_;rintro _ H1 fr;replace fr:aX h _ _ _:=fr;obtain⟨aw,fw,rfl,ow,nw,bw,ew⟩:=fr.a1;have ow0:=ow;obtain⟨wX,w4,w6,fX,f4,f6,rfl,rfl,oX,o4,o6⟩:=ck ow;obtain⟨nX,n46,dX⟩:=Aac.1 nw;obtain⟨a1,a2,a3,a4⟩:=oX.cell;obtain⟨b1,b2,b3,b4⟩:=o4.cell;obtain⟨c1,c2,c3,c4⟩:=o6.cell;obtain⟨N1,hN1⟩:=ew.out;simp only[au,Aaa,Aab,xk,py,kK,cK,ER,aF.c,a1,a2,a3,b1,b2,b3,c1,c2,c3];by_cases hc:c<1
 ·simp only[au,Aaa,Aab,xk,py,kK,cK,ER,aF.c,a1,a2,a3,b1,b2,b3,c1,c2,c3,aR hc];exact⟨show gq (.agg _)=true by simp only[EO,a3,b3,c3],_,N1,_,rfl,hN1,by rw[tQ hc];exact ow0,nw,bw⟩
 simp only[au,Aaa,Aab,xk,py,kK,cK,ER,aF.c,a1,a2,a3,b1,b2,b3,c1,c2,c3,aW hc];refine fD aG mixed [] (fun k:Nat=>k≤l.exports.length∧∀(i:Nat) (hi:i<l.exports.length),i<k→(l.exports[i].pos == pos)=false) (fun k=>l.exports.length-k)
  (fun k=>D0 (.int .i64 pos) (.int .i64 c) (.lp ([]:List (List AV)).length 0) (.lp (([]:List (List AV)).length+1) 0) (.lp (([]:List (List AV)).length+2) 0) (.int .i64 k) (([]:List (List AV))++[l.c β,[.int .i64 0,.bool false,.nils,.int .i64 0,.nils,.int .i64 0,.nils],[.int .i64 l.peer,.bool l.up,wX,.int .i64 l.next,w4,.int .i64 l.asked,w6]]) H1) 0 ⟨by omega,fun i hi h=>by omega⟩ ⟨by simp[D0,gW,gM],rfl,rfl⟩ ?_
 rintro k ⟨hk,ht⟩;simp only[au,Aaa,Aab,xk,py,kK,D0,cK,ER,aF.c,L0];refine bz (fun hlt=>?_) (fun hge=>?_);rotate_left
 ·have hge:k=l.exports.length:=by simp at hge;omega
  subst hge;simp only[au,Aaa,Aab,xk,py,kK,cK,ER,a1,a2,a3,b1,b2,b3,c1,c2,c3];exact⟨show gq (.agg _)=true by simp only[EO,a3,b3,c3],_,N1,_,rfl,hN1,by rw[uH (qU (p:=fun x:aE=>x.pos == pos) fun i hi=>ht i hi hi)];exact ow0,nw,bw⟩
 have hlt:k<l.exports.length:=by simpa using hlt
 have i0:=fI (β:=β) (sz:=3) (ex:=false) (ce:=aE.c β) hlt;by_cases hp:l.exports[k].pos=pos;rotate_left
 ·simp only[au,Aaa,Aab,xk,py,kK,cK,ER,i0,aE.c,ag,aW hp];exact⟨k+1,⟨hlt,qK (P:=fun x:aE=>(x.pos == pos)=false) ht (by simpa using hp)⟩,by omega,⟨by rw[wN (by omega)];simp[D0,aF.c,gW,gM],rfl,rfl⟩⟩
 have re:=Eo hc hlt (wU (p:=fun x:aE=>x.pos == pos) hlt ht (by simpa using hp));obtain⟨lf,hlf⟩:∃lf,lf=IntKind.i64.wrap (l.exports[k].count-c):=⟨_,rfl⟩
 rw[←hlf]at re;by_cases hlt1:lf<1;rotate_left
 ·rw[if_neg hlt1]at re;have hkm:k<(l.exports.map aE.cd).length:=by simpa using hlt
  obtain⟨bX,gX,a,fa,i1,blX,bmX,rd,oa,na,ma,ba,st⟩:=oX.lens nX hkm (off:=2) (by omega) (by simp[aE.cd]);simp only[List.getElem_map,aE.cd,List.getElem_cons_succ,List.getElem_cons_zero,j6]at oa;obtain⟨rfl,rfl⟩:=oa;obtain⟨H2,fp2,s1,o2,n2,mm2,l2,r2⟩:=st H1 (.int .i64 lf) (.i .i64 lf) [] (.i _ _) (by simp) (by simp) (fun _ _ _=>rfl);have mfp:∀c∈fp2,c∈fX:=fun c hc=>(mm2 c hc).elim id (by simp);have fX2:rH 2 (.gp bX gX (k*3))=some (.gp bX gX (k*3+2)):=rfl;have key:(((l.exports.map aE.cd).set k (((l.exports.map aE.cd)[k]).set 2 (.i .i64 lf))))=(l.exports.set k { l.exports[k]with count:=lf }).map aE.cd:=by
   rw[List.map_set];simp[aE.cd]
  rw[key]at o2;simp only[au,Aaa,Aab,xk,py,kK,cK,ER,i0,aE.c,ag,aR hp,←hlf,aW hlt1,i1,fX2,s1,a1,a2,a3,b1,b2,b3,c1,c2,c3];have o4':=o4.frame (h':=H2) fun c hc=>r2 c (fun e=>dX bX bmX c (by simp[hc]) e.symm);have o6':=o6.frame (h':=H2) fun c hc=>r2 c (fun e=>dX bX bmX c (by simp[hc]) e.symm);have hx:=ew.CZ (show H1.length≤H2.length by omega) (fun c hc _=>r2 c (fun e=>hc (by rw[e];exact bmX))) (fun c hc=>bw c (Aao _ hc));obtain⟨N,hN⟩:=hx.out;refine⟨show gq (.agg _)=true by simp only[EO,a3,b3,c3],_,N,fp2++(f4++f6),rfl,hN,?_,Aac.2 ⟨n2,n46,fun x hx y hy=>dX x (mfp x hx) y hy⟩,fun c hc=>?_⟩
  ·rw[re];exact gB (l:={ l with exports:=l.exports.set k { l.exports[k]with count:=lf } }) o2 o4' o6'
  ·rcases Aad.1 hc with g|g
   ·exact bw c (Aao _ (mfp c g))
   ·exact bw c (Aam _ g)
 rw[if_pos hlt1]at re;have tc:∀(s:St),Cd (.sl 3) s (.vs β 3 false (l.exports.map (aE.c β))) (.int .i64 k)=.val (.vs β 3 false ((l.exports.take k).map (aE.c β))) s:=fun s=>Np s β 3 l.exports (aE.c β) (by omega);have fc:∀(s:St),ud (.sl 3) s (.vs β 3 false (l.exports.map (aE.c β))) (.int .i64 ((k+1:Nat):Int))=.val (.vs β 3 false ((l.exports.drop (k+1)).map (aE.c β))) s:=fun s=>LQ s β 3 l.exports (aE.c β) (by omega);have wk:IntKind.i64.wrap ((k:Int)+1)=((k+1:Nat):Int):=wN (by omega);obtain⟨v1,H2,f1,ea1,o1,n1,r1,l1,m1⟩:=rY (bytes:=24) (gn H1 3) (by simp) (by omega) (β:=β) (l:=l.exports.take k) (c:=aE.c β) (fun x=>⟨rfl,rfl⟩) (fun x=>(aE.bO false x).symm) (by simp only[List.length_nil,Aaq,aU];omega);obtain⟨v2,H3,f2,ea2,o2,n2,r2,l2,m2⟩:=rY (bytes:=24) o1 n1 (by omega) (β:=β) (l:=l.exports.drop (k+1)) (c:=aE.c β) (fun x=>⟨rfl,rfl⟩) (fun x=>(aE.bO false x).symm) (by simp only[Aar,Aaj,Aaq,List.length_drop,aU];omega);obtain⟨e1,e2,e3,e4⟩:=o2.cell;obtain⟨g1,g2,g3,g4⟩:=o1.cell;simp only[au,Aaa,Aab,xk,py,kK,EA,cK,ER,i0,aE.c,ag,aR hp,←hlf,aR hlt1,wk,tc,fc,yk,tC,ea1,ea2,e1,e2,e3,a1,a2,a3,b1,b2,b3,c1,c2,c3];have gl:∀c∈f1,H1.length≤c:=fun c hc=>by
  rcases m1 c hc with g|g
  ·simp at g;omega
  ·simp at g;omega
 have hl2:H1.length+1≤H2.length:=by simpa using l1
 have gl2:∀c∈f2,H1.length≤c:=fun c hc=>by
  rcases m2 c hc with g|g
  ·exact gl c g
  ·omega
 have fr3:∀c,c<H1.length→H3[c]? = H1[c]?:=fun c hc=>by
  rw[r2 c (fun hm=>by have:=gl c hm;omega) (by omega),r1 c (by simp;omega) (by simp;omega)];exact Aae hc
 have hx:cQ h H3:=ew.CZ (fp:=[]) (by omega) (fun c _ hcl=>fr3 c hcl) (fun c hc=>by simp at hc);obtain⟨N,hN⟩:=hx.out;have el:=ew.len;have o4':=o4.frame (h':=H3) fun c hc=>fr3 c (o4.lt c hc);have o6':=o6.frame (h':=H3) fun c hc=>fr3 c (o6.lt c hc);have hll:([]++(l.exports.take k).map aE.cd)++(l.exports.drop (k+1)).map aE.cd=(l.exports.eraseIdx k).map aE.cd:=by
  rw[Aar,←Aal,List.eraseIdx_eq_take_drop_succ]
 rw[hll]at o2;refine⟨gI rfl,show gq (.agg _)=true by simp only[EO,e3,b3,c3],_,N,f2++(f4++f6),rfl,hN,?_,Aac.2 ⟨n2,n46,fun x hx y hy e=>?_⟩,fun c hc=>?_⟩
 ·rw[re];exact gB (l:={ l with exports:=l.exports.eraseIdx k }) o2 o4' o6'
 ·subst e;have:=gl2 x hx;rcases Aad.1 hy with g|g
  ·have:=o4.lt x g;omega
  ·have:=o6.lt x g;omega
 ·rcases Aad.1 hc with g|g
  ·have:=gl2 c g;omega
  ·exact bw c (Aam _ g)
end Go.Proofs.YtolciaflplefcaaGreat
