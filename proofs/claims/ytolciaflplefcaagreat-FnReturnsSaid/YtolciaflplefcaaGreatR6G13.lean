import Derived.Test.YtolciaflplefcaaGreatR6G12
import Derived.Test.YtolciaflplefcaaGreatAmG9
import Derived.Test.YtolciaflplefcaaGreatAmG10
set_option linter.unusedVariables false
set_option linter.unusedSimpArgs false
open Go.Proofs.Tryz renaming prog→pQ
open Nat renaming reduceAdd→Aaa,reduceBEq→Aab,reduceLeDiff→Aal,le_refl→AaA
open List renaming nodup_append→Aac,mem_append→Aad,mem_append_left→Aae,length_map→Aaf,mem_append_right→Aag,eraseIdx_eq_take_drop_succ→Aah,getElem_map→Aai,getElem_cons_succ→Aaj,getElem_cons_zero→Aak,length_cons→Aam,length_nil→Aan,getD_eq_getElem?_getD→Aao,getElem_set_self→Aap,getElem?_set_ne→Aaq,all_cons→Aas,set_cons_succ→Aat,set_cons_zero→Aau,mem_replicate→Aav,length_append→Aaw,map_set→Aax,all_nil→Aay,mem_map→Aaz,all→AaB
open Bool renaming and_self→Aar
namespace Go.Proofs.YtolciaflplefcaaGreat
open Go.AM
variable {Γ:bG}
theorem XB(β:Bool)(x:aE)(en:Int)(H:AH){k:Nat}(hk:cF H k=some (0,[.int .i64 en])):T pQ Γ Fn.kaw [.agg (x.c β),.gp k 0 0] H fun v h'=>v=.bool (x.entity == en)∧h'=H:=by
 refine U9 (aC aG mixed [] _ _ _ ?_);unfold Oc;have hc:∀(e:List AV) (l:List (List AV)) (off n:Nat),(St.mk e l H).cells (.gp k 0 off) n=sub [.int .i64 en] off n:=fun e l off n=>b8 hk;simp only[au,Aaa,Aab,RI,aE.c,hc];first|exact⟨rfl,rfl⟩|exact rfl
theorem UX(β:Bool)(l:aF)(hl:l.exports.length≤1048576)(en:Int)(H:AH){p:AV}(hp:Ptr H p (l.c β)):
 T pQ Γ Fn.kav [p,.int .i64 en] H fun v h'=>v=.int .i64 (iq (fun x:aE=>x.entity == en) l.exports)∧h'=H:=by
 refine(?_:T pQ Γ Fn.kav _ H fun v h'=>v=.int .i64 (iq (fun x:aE=>x.entity == en) l.exports)∧∃N,h'=H++N).drop (by rintro v h' ⟨rfl,N,rfl⟩;exact⟨N,rfl,.int _ _,rfl,rfl⟩);refine Xd (aC aG mixed [3] _ _ _ ?_);unfold Tg;have hp':∀N,Ptr (H++N) p (l.c β):=fun N=>hp.grow N;simp only[au,Aaa,Aab,KT,xL _ _ (show AaB [AV.int .i64 en] bM=true from rfl),jH,hp.nil,hp.fld,(hp' [some (0,[.int .i64 en])]).rd,aF.lX,Aal,aF.c];have hcall:=my (P:=pQ) (Γ:=Γ) aG mixed (sz:=3) (agg:=true) (fun hw=>PM hw) (β:=β) (l:=l.exports) (c:=aE.c β) (by omega) (fun x=>⟨⟨rfl,.inl rfl⟩,rfl⟩) (g:=Fn.kaw) (first:=[]) (caps:=[.gp H.length 0 0]) rfl (fun x:aE=>x.entity == en) (h:=H++[some (0,[.int .i64 en])]) (fun x hx=>XB β x en _ (eQ _ _));refine al.val (by simp only[EO]) hcall ?_;simp only[au,Aaa,Aab,KT];exact⟨rfl,_,rfl⟩
def jq(l:aF)(e:Int):aF×Int:=
  if 0≤iq (fun x:aE=>x.entity == e) l.exports then
    (let k:=(iq (fun x:aE=>x.entity == e) l.exports).toNat
     ({ l with exports:=l.exports.set k { l.exports.getD k default with count:=IntKind.i64.wrap ((l.exports.getD k default).count+1) } },(l.exports.getD k default).pos))
  else ({ l with next:=IntKind.i64.wrap (l.next+1),exports:=l.exports++[⟨IntKind.i64.wrap (l.next+1),e,1⟩] },IntKind.i64.wrap (l.next+1))
theorem AT{l:aF}{e:Int}{k:Nat}(hk:k<l.exports.length)(h:iq (fun x:aE=>x.entity == e) l.exports=(k:Int)):
 jq l e=({ l with exports:=l.exports.set k { l.exports[k]with count:=IntKind.i64.wrap (l.exports[k].count+1) } },l.exports[k].pos):=by
 unfold jq;rw[h,if_pos (by omega)];simp[Aao,hk]
theorem xV{l:aF}{e:Int}(h:iq (fun x:aE=>x.entity == e) l.exports = -1):
 jq l e=({ l with next:=IntKind.i64.wrap (l.next+1),exports:=l.exports++[⟨IntKind.i64.wrap (l.next+1),e,1⟩] },IntKind.i64.wrap (l.next+1)):=by
 unfold jq;rw[h,if_neg (by omega)]
theorem Bl{H:AH}{w:AV}{sz:Nat}{xs:List (List CD)}{fp:List Nat}(o:b9 H w (.sl sz xs) fp)(nd:fp.Nodup){k:Nat}(hk:k<xs.length){b g:Nat}(hi:fh sz w (k:Int)=some (.gp b g (k*sz))):
 ∃az f,(∀(e:List AV) (L:List (List AV)),(St.mk e L H).cells (.gp b g (k*sz)) sz=some az)∧
  (∀(e:List AV) (L:List (List AV)) (off n:Nat),off+n≤sz→(St.mk e L H).cells (.gp b g (k*sz+off)) n=sub az off n)∧aM H az xs[k] f∧f.Nodup∧(∀c∈f,c∈fp)∧az.length=sz:=by
 obtain⟨b',g',az,f,e1,_,_,e2,e3,e4,e5,e6,e7⟩:=o.row nd hk;have:=hi.symm.trans e1;simp only[Option.some.injEq,AV.gp.injEq]at this;obtain⟨rfl,rfl,_⟩:=this;exact⟨az,f,e2,e3,e4,e5,e6,e7⟩
theorem ck{H:AH}{row:List AV}{l:aF}{f:List Nat}(o:aM H row l.cd f):∃wX w4 w6 fX f4 f6,row=[.int .i64 l.peer,.bool l.up,wX,.int .i64 l.next,w4,.int .i64 l.asked,w6]∧f=fX++(f4++f6)∧b9 H wX (.sl 3 (l.exports.map aE.cd)) fX∧b9 H w4 (.sl 2 (l.questions.map aB.cd)) f4∧b9 H w6 (.sl 2 (l.answers.map aB.cd)) f6:=by
 simp only[aF.cd,jv,jy,j6,oF,nF]at o;obtain⟨_,_,_,_,rfl,rfl,⟨rfl,rfl⟩,⟨_,_,_,_,rfl,rfl,⟨rfl,rfl⟩,⟨wX,_,fX,_,rfl,rfl,oX,⟨_,_,_,_,rfl,rfl,⟨rfl,rfl⟩,⟨w4,_,f4,_,rfl,rfl,o4,⟨_,_,_,_,rfl,rfl,⟨rfl,rfl⟩,⟨w6,_,f6,_,rfl,rfl,o6,⟨rfl,rfl⟩⟩⟩⟩⟩⟩⟩⟩:=o;exact⟨wX,w4,w6,fX,f4,f6,rfl,by simp,oX,o4,o6⟩
theorem gB{H:AH}{l:aF}{wX w4 w6:AV}{fX f4 f6:List Nat}(oX:b9 H wX (.sl 3 (l.exports.map aE.cd)) fX)(o4:b9 H w4 (.sl 2 (l.questions.map aB.cd)) f4)(o6:b9 H w6 (.sl 2 (l.answers.map aB.cd)) f6):
 aM H [.int .i64 l.peer,.bool l.up,wX,.int .i64 l.next,w4,.int .i64 l.asked,w6] l.cd (fX++(f4++f6)):=by
 have e:f6=f6++[]:=by simp
 rw[e];exact .i (.b (.o oX (.i (.o o4 (.i (.o o6 .nil))))))
set_option maxHeartbeats 1000000 in
theorem ZZ(l:aF)(hl:l.exports.length≤1048576)(en:Int)(H:AH){b g:Nat}{pre row post:List AV}{f:List Nat}(m:pj H b g pre row post)(o:aM H row l.cd f)(nd:f.Nodup)(hb:b∉f):
 T pQ Γ Fn.kax [.gp b g pre.length,.int .i64 en] H fun v h'=>v=.int .i64 (jq l en).2∧H.length≤h'.length∧∃row' f',pj h' b g pre row' post∧aM h' row' (jq l en).1.cd f'∧f'.Nodup∧(∀c∈f',c∈f∨H.length≤c)∧(∀c,c∉f→c≠b→c<H.length→h'[c]? = H[c]?):=by
 have sn:=m.snap (aM.fk (aF.bO true _) o);have bl:=m.lt;obtain⟨wX,w4,w6,fX,f4,f6,rfl,rfl,oX,o4,o6⟩:=ck o;obtain⟨nX,n46,dX⟩:=Aac.1 nd;have f0':∀o':Nat,rH 0 (.gp b g o')=some (.gp b g o'):=fun _=>rfl;have f2':rH 2 (.gp b g pre.length)=some (.gp b g (pre.length+2)):=rfl;have f3':rH 3 (.gp b g pre.length)=some (.gp b g (pre.length+3)):=rfl;have m2:∀(e:List AV) (L:List (List AV)),(St.mk e L H).cells (.gp b g (pre.length+2)) 1=some [wX]:=fun e L=>m.cells e L 2 1 (by simp);have m3:∀(e:List AV) (L:List (List AV)),(St.mk e L H).cells (.gp b g (pre.length+3)) 1=some [.int .i64 l.next]:=fun e L=>m.cells e L 3 1 (by simp);refine Yu (aC aG mixed [] _ _ _ ?_);unfold Ob;simp only[au,Aaa,Aab,FY,yz,qS];refine al.fk (by simp only[EO]) (aI sn (aI (.same _) aZ)) (fun h=>UX true l hl en h (Ptr.ip h true _)) (.int _ _) ?_;obtain⟨cX1,cX2,cX3,cX4⟩:=oX.cell;rcases iB (fun x:aE=>x.entity == en) l.exports with⟨k,hk,e1,e2,e3⟩|⟨e1,e2,e3⟩
 ·have pe:=AT hk e1;have hkm:k<(l.exports.map aE.cd).length:=by simpa using hk
  obtain⟨bX,gX,a,fa,i0,blX,bmX,rd,oa,na,ma,ba,st⟩:=oX.lens nX hkm (off:=2) (by omega) (by simp[aE.cd]);simp only[Aai,aE.cd,Aaj,Aak,j6]at oa;obtain⟨rfl,rfl⟩:=oa;obtain⟨H2,fp2,s1,o2,n2,mm2,l2,r2⟩:=st H (.int .i64 (IntKind.i64.wrap (l.exports[k].count+1))) (.i .i64 (IntKind.i64.wrap (l.exports[k].count+1))) [] (.i _ _) (by simp) (by simp) (fun _ _ _=>rfl);have bne:bX≠b:=fun e=>hb (by rw[←e];simp[bmX]);have mH:=m.frame (r2 b (Ne.symm bne));have m2':∀(e:List AV) (L:List (List AV)),(St.mk e L H2).cells (.gp b g (pre.length+2)) 1=some [wX]:=fun e L=>mH.cells e L 2 1 (by simp);have mfp:∀c∈fp2,c∈fX:=fun c hc=>(mm2 c hc).elim id (by simp);have hk2:k<((l.exports.map aE.cd).set k (((l.exports.map aE.cd)[k]).set 2 (.i .i64 (IntKind.i64.wrap (l.exports[k].count+1))))).length:=by simpa using hk
  obtain⟨az,fz,_,rz,oz,_,_,lz⟩:=Bl o2 n2 hk2 i0;have oo:=oz;simp only[Aap,Aai,aE.cd,Aat,Aau,jv,jy,j6]at oo;obtain⟨_,_,_,_,ez,_,⟨rfl,rfl⟩,_⟩:=oo;subst ez;have rp:∀(e:List AV) (L:List (List AV)),(St.mk e L H2).cells (.gp bX gX (k*3)) 1=some [.int .i64 l.exports[k].pos]:=fun e L=>by
   have:=rz e L 0 1 (by omega);rw[Nat.add_zero]at this;rw[this];simp[sub]
  have fX2:rH 2 (.gp bX gX (k*3))=some (.gp bX gX (k*3+2)):=rfl;have fX0:rH 0 (.gp bX gX (k*3))=some (.gp bX gX (k*3)):=rfl;simp only[au,Aaa,Aab,FY,yz,qS,e1,aR (show(k:Int)≥0 by omega),f2',m2,i0,fX2,fX0,rd,s1,m2',rp];have key:(((l.exports.map aE.cd).set k (((l.exports.map aE.cd)[k]).set 2 (.i .i64 (IntKind.i64.wrap (l.exports[k].count+1))))))=(jq l en).1.exports.map aE.cd:=by
   rw[pe,Aax];simp[aE.cd]
  rw[key]at o2;refine⟨rfl,by rw[pe],by omega,_,fp2++(f4++f6),mH,?_,Aac.2 ⟨n2,n46,fun x hx y hy=>dX x (mfp x hx) y hy⟩,fun c hc=>?_,fun c hc hcb hcl=>r2 c (fun e=>hc (by rw[e];simp[bmX]))⟩
  ·have o4':=o4.frame (h':=H2) fun c hc=>r2 c (fun e=>dX bX bmX c (by simp[hc]) e.symm);have o6':=o6.frame (h':=H2) fun c hc=>r2 c (fun e=>dX bX bmX c (by simp[hc]) e.symm);have:=gB (l:=(jq l en).1) o2 (by rw[pe];exact o4') (by rw[pe];exact o6');rw[pe]at this ⊢;exact this
  ·rcases Aad.1 hc with g|g
   ·exact .inl (Aae _ (mfp c g))
   ·exact .inl (Aag _ g)
 ·have pe:=xV (l:=l) (e:=en) e1;obtain⟨H1,s1,m1,l1,r1⟩:=m.store (i:=3) (vs:=[.int .i64 (IntKind.i64.wrap (l.next+1))]) (by simp) rfl;have ov:c8 [.int .i64 l.peer,.bool l.up,wX,.int .i64 l.next,w4,.int .i64 l.asked,w6] 3 [.int .i64 (IntKind.i64.wrap (l.next+1))]=[.int .i64 l.peer,.bool l.up,wX,.int .i64 (IntKind.i64.wrap (l.next+1)),w4,.int .i64 l.asked,w6]:=rfl;rw[ov]at m1;have oX1:=oX.frame (h':=H1) fun c hc=>r1 c (fun e=>hb (by rw[←e];simp[hc]));have q2:∀(e:List AV) (L:List (List AV)),(St.mk e L H1).cells (.gp b g (pre.length+2)) 1=some [wX]:=fun e L=>m1.cells e L 2 1 (by simp);have q3:∀(e:List AV) (L:List (List AV)),(St.mk e L H1).cells (.gp b g (pre.length+3)) 1=some [.int .i64 (IntKind.i64.wrap (l.next+1))]:=fun e L=>m1.cells e L 3 1 (by simp);obtain⟨v',H',fp',ea,o',nd',hf',hl',hm'⟩:=df (bytes:=24) oX1 (ys:=[.int .i64 (IntKind.i64.wrap (l.next+1)),.int .i64 en,.int .i64 1]) (row:=[.i .i64 (IntKind.i64.wrap (l.next+1)),.i .i64 en,.i .i64 1]) (f2:=[]) (by simpa using nX) (by omega) rfl (.i (.i (.i .nil))) (by simp only[Aaf,aU];omega);obtain⟨cv1,cv2,cv3,cv4⟩:=o'.cell;have mH:=m1.frame (hf' b (fun h=>hb (by simp[h])) (by omega));have hbv:b∉fp':=fun h=>by
   rcases hm' b h with g|g|g
   ·exact hb (by simp[g])
   ·simp at g
   ·omega
  obtain⟨H3,s3,m3',l3,r3⟩:=mH.store (i:=2) (vs:=[v']) (by simp) (by simp only[je,jg,cv3,Aar]);have Uf:c8 [.int .i64 l.peer,.bool l.up,wX,.int .i64 (IntKind.i64.wrap (l.next+1)),w4,.int .i64 l.asked,w6] 2 [v']=[.int .i64 l.peer,.bool l.up,v',.int .i64 (IntKind.i64.wrap (l.next+1)),w4,.int .i64 l.asked,w6]:=rfl;rw[Uf]at m3';have q4:∀(e:List AV) (L:List (List AV)),(St.mk e L H3).cells (.gp b g (pre.length+3)) 1=some [.int .i64 (IntKind.i64.wrap (l.next+1))]:=fun e L=>m3'.cells e L 3 1 (by simp);simp only[au,Aaa,Aab,FY,yz,qS,EA,e1,show decide ((-1:Int)≥0)=false from rfl,f2',f3',m3,s1,q2,q3,ji,sO,sI,sK];simp only[au,Aaa,Aab,FY,yz,qS,EA,ea,s3,q4,cv1,cv2,cv3];have ap:∀c∈f4++f6,H3[c]? = H[c]?:=fun c hc=>by
   have h1:c<H.length:=by
    rcases Aad.1 hc with g|g
    ·exact o4.lt c g
    ·exact o6.lt c g
   have h2:c≠b:=fun e=>hb (by rw[←e];exact Aag _ hc);rw[r3 c h2,hf' c (fun h=>dX c h c hc rfl) (by omega),r1 c h2]
  have o4':=o4.frame (h':=H3) fun c hc=>ap c (by simp[hc]);have o6':=o6.frame (h':=H3) fun c hc=>ap c (by simp[hc]);have oX3:=o'.frame (h':=H3) fun c hc=>r3 c (fun e=>hbv (by rw[←e];exact hc));refine⟨rfl,by rw[pe],by omega,_,fp'++(f4++f6),m3',?_,Aac.2 ⟨nd',n46,fun x hx y hy e=>?_⟩,fun c hc=>?_,fun c hc hcb hcl=>?_⟩
  ·rw[pe];exact gB (l:={ l with next:=IntKind.i64.wrap (l.next+1),exports:=l.exports++[⟨IntKind.i64.wrap (l.next+1),en,1⟩] }) (by simpa[aE.cd]using oX3) o4' o6'
  ·subst e;rcases hm' x hx with g|g|g
   ·exact dX x g x hy rfl
   ·simp at g
   ·rcases Aad.1 hy with q|q
    ·have:=o4.lt x q;omega
    ·have:=o6.lt x q;omega
  ·rcases Aad.1 hc with g|g
   ·rcases hm' c g with q|q|q
    ·exact .inl (Aae _ q)
    ·simp at q
    ·exact .inr (by omega)
   ·exact .inl (Aag _ g)
  ·rw[r3 c hcb,hf' c (fun h=>hc (Aae _ h)) (by omega),r1 c hcb]
set_option maxHeartbeats 1000000 in
theorem LM(β:Bool)(l:aF)(hl:l.ok 1048576)(en:Int)(h:AH):T pQ Γ Fn.kcd [.agg (l.c β),.int .i64 en] h (aX h [.a (jq l en).1.cd,.c (.i .i64 (jq l en).2)]):=by
 have hle:=hl.1;have L0:=eY β 3 false l.exports (aE.c β);refine T.AZ rfl ?_;refine kcd_e (aC aG mixed [] _ _ _ ?_);unfold PK;simp only[au,Aaa,Aab,An,rn,qY,rF,mZ,mM,mQ,cK,ER,aF.c];refine al.ref (by simp only[EO]) (It β l hl _) ?_;rintro _ H1 fr;replace fr:aX h _ _ _:=fr;obtain⟨aw,fw,rfl,ow,nw,bw,ew⟩:=fr.a1;obtain⟨wX,w4,w6,fX,f4,f6,rfl,rfl,oX,o4,o6⟩:=ck ow;obtain⟨nX,n46,dX⟩:=Aac.1 nw;obtain⟨a1,a2,a3,a4⟩:=oX.cell;obtain⟨b1,b2,b3,b4⟩:=o4.cell;obtain⟨c1,c2,c3,c4⟩:=o6.cell;obtain⟨N1,hN1⟩:=ew.out;simp only[au,Aaa,Aab,An,rn,qY,rF,mZ,mM,mQ,cK,ER,aF.c,a1,a2,a3,b1,b2,b3,c1,c2,c3];refine fD aG mixed [] (fun k:Nat=>k≤l.exports.length∧∀(i:Nat) (hi:i<l.exports.length),i<k→(l.exports[i].entity == en)=false) (fun k=>l.exports.length-k)
  (fun k=>EP (.int .i64 en) (.lp ([]:List (List AV)).length 0) (.lp (([]:List (List AV)).length+1) 0) (.lp (([]:List (List AV)).length+2) 0) (.int .i64 k) (([]:List (List AV))++[l.c β,[.int .i64 0,.bool false,.nils,.int .i64 0,.nils,.int .i64 0,.nils],[.int .i64 l.peer,.bool l.up,wX,.int .i64 l.next,w4,.int .i64 l.asked,w6]]) H1) 0 ⟨by omega,fun i hi h=>by omega⟩ ⟨by simp[EP,gW,gM],rfl,rfl⟩ ?_
 rintro k ⟨hk,ht⟩;simp only[au,Aaa,Aab,An,rn,qY,rF,mZ,mM,mQ,EP,cK,ER,aF.c,L0];refine bz (fun hlt=>?_) (fun hge=>?_)
 ·have hlt:k<l.exports.length:=by simpa using hlt
  have i0:=fI (β:=β) (sz:=3) (ex:=false) (ce:=aE.c β) hlt;cases hp:l.exports[k].entity == en
  ·simp only[au,Aaa,Aab,An,rn,qY,rF,mZ,mM,mQ,cK,ER,i0,aE.c,hp];exact⟨k+1,⟨hlt,qK (P:=fun x:aE=>(x.entity == en)=false) ht hp⟩,by omega,⟨by rw[wN (by omega)];simp[EP,aF.c,gW,gM],rfl,rfl⟩⟩
  ·have pe:=AT hlt (wU (p:=fun x:aE=>x.entity == en) hlt ht hp);have hkm:k<(l.exports.map aE.cd).length:=by simpa using hlt
   obtain⟨bX,gX,a,fa,i1,blX,bmX,rd,oa,na,ma,ba,st⟩:=oX.lens nX hkm (off:=2) (by omega) (by simp[aE.cd]);simp only[Aai,aE.cd,Aaj,Aak,j6]at oa;obtain⟨rfl,rfl⟩:=oa;obtain⟨H2,fp2,s1,o2,n2,mm2,l2,r2⟩:=st H1 (.int .i64 (IntKind.i64.wrap (l.exports[k].count+1))) (.i .i64 (IntKind.i64.wrap (l.exports[k].count+1))) [] (.i _ _) (by simp) (by simp) (fun _ _ _=>rfl);have mfp:∀c∈fp2,c∈fX:=fun c hc=>(mm2 c hc).elim id (by simp);have fX2:rH 2 (.gp bX gX (k*3))=some (.gp bX gX (k*3+2)):=rfl;simp only[au,Aaa,Aab,An,rn,qY,rF,mZ,mM,mQ,cK,ER,i0,aE.c,hp,i1,fX2,s1];simp only[au,Aaa,Aab,An,rn,qY,rF,mZ,mM,mQ,cK,ER,i0,aE.c,a1,a2,a3,b1,b2,b3,c1,c2,c3];have key:(((l.exports.map aE.cd).set k (((l.exports.map aE.cd)[k]).set 2 (.i .i64 (IntKind.i64.wrap (l.exports[k].count+1))))))=(jq l en).1.exports.map aE.cd:=by
    rw[pe,Aax];simp[aE.cd]
   rw[key]at o2;have o4':=o4.frame (h':=H2) fun c hc=>r2 c (fun e=>dX bX bmX c (by simp[hc]) e.symm);have o6':=o6.frame (h':=H2) fun c hc=>r2 c (fun e=>dX bX bmX c (by simp[hc]) e.symm);have own:=gB (l:=(jq l en).1) o2 (by rw[pe];exact o4') (by rw[pe];exact o6');have hx:=ew.CZ (show H1.length≤H2.length by omega) (fun c hc _=>r2 c (fun e=>hc (by rw[e];exact bmX))) (fun c hc=>bw c (Aae _ hc));obtain⟨N,hN⟩:=hx.out;refine⟨EX 1 rfl,by simp only[Aas,Aay,EO,a3,b3,c3],_,N,fp2++(f4++f6),by rw[pe,CD.mY],hN,by rw[pe]at own ⊢;exact own,Aac.2 ⟨n2,n46,fun x hx y hy=>dX x (mfp x hx) y hy⟩,fun c hc=>?_⟩;rcases Aad.1 hc with g|g
   ·exact bw c (Aae _ (mfp c g))
   ·exact bw c (Aag _ g)
 have hge:k=l.exports.length:=by simp at hge;omega
 subst hge;have pe:=xV (l:=l) (e:=en) (qU (p:=fun x:aE=>x.entity == en) fun i hi=>ht i hi hi);obtain⟨v',H',fp',ea,o',nd',hf',hl',hm'⟩:=df (bytes:=24) oX (ys:=[.int .i64 (IntKind.i64.wrap (l.next+1)),.int .i64 en,.int .i64 1]) (row:=[.i .i64 (IntKind.i64.wrap (l.next+1)),.i .i64 en,.i .i64 1]) (f2:=[]) (by simpa using nX) (by omega) rfl (.i (.i (.i .nil))) (by simp only[Aaf,aU];omega);obtain⟨e1,e2,e3,e4⟩:=o'.cell;simp only[au,Aaa,Aab,An,rn,qY,rF,mZ,mM,mQ,EA,cK,ER,ji,sO,sI,sK,ea,a1,a2,a3,b1,b2,b3,c1,c2,c3,e1,e2,e3];have ap:∀c∈f4++f6,H'[c]? = H1[c]?:=fun c hc=>hf' c (fun h=>dX c h c hc rfl) (by
  rcases Aad.1 hc with g|g
  ·exact o4.lt c g
  ·exact o6.lt c g)
 have o4':=o4.frame (h':=H') fun c hc=>ap c (by simp[hc]);have o6':=o6.frame (h':=H') fun c hc=>ap c (by simp[hc]);have hx:=ew.CZ hl' hf' (fun c hc=>bw c (Aae _ hc));obtain⟨N,hN⟩:=hx.out;have el:=ew.len;refine⟨EX 1 rfl,by simp only[Aas,Aay,EO,e3,b3,c3],_,N,fp'++(f4++f6),by rw[pe,CD.mY],hN,?_,Aac.2 ⟨nd',n46,fun x hx y hy e=>?_⟩,fun c hc=>?_⟩
 ·rw[pe];exact gB (l:={ l with next:=IntKind.i64.wrap (l.next+1),exports:=l.exports++[⟨IntKind.i64.wrap (l.next+1),en,1⟩] }) (by simpa[aE.cd]using o') o4' o6'
 ·subst e;rcases hm' x hx with g|g|g
  ·exact dX x g x hy rfl
  ·simp at g
  ·rcases Aad.1 hy with q|q
   ·have:=o4.lt x q;omega
   ·have:=o6.lt x q;omega
 ·rcases Aad.1 hc with g|g
  ·rcases hm' c g with q|q|q
   ·exact bw c (Aae _ q)
   ·simp at q
   ·omega
  ·exact bw c (Aag _ g)
def zL:List AV:=[.int .i64 0,.bool false,.nils,.int .i64 0,.nils,.int .i64 0,.nils]
def lO(l:aF)(p:Int):aF×Int:=({ l with asked:=IntKind.i64.wrap (l.asked+1),questions:=l.questions++[⟨IntKind.i64.wrap (l.asked+1),p⟩] },IntKind.i64.wrap (l.asked+1))
set_option maxHeartbeats 1000000 in
theorem XT(l:aF)(hl:l.questions.length≤1048576)(en:Int)(H:AH){b g:Nat}{pre row post:List AV}{f:List Nat}(m:pj H b g pre row post)(o:aM H row l.cd f)(nd:f.Nodup)(hb:b∉f):
 T pQ Γ Fn.kar [.gp b g pre.length,.int .i64 en] H fun v h'=>v=.int .i64 (lO l en).2∧H.length≤h'.length∧∃row' f',pj h' b g pre row' post∧aM h' row' (lO l en).1.cd f'∧f'.Nodup∧(∀c∈f',c∈f∨H.length≤c)∧(∀c,c∉f→c≠b→c<H.length→h'[c]? = H[c]?):=by
 have bl:=m.lt;obtain⟨wX,w4,w6,fX,f4,f6,rfl,rfl,oX,o4,o6⟩:=ck o;obtain⟨nX,n46,dX⟩:=Aac.1 nd;obtain⟨n4,n6,d46⟩:=Aac.1 n46;have f4':rH 4 (.gp b g pre.length)=some (.gp b g (pre.length+4)):=rfl;have f5':rH 5 (.gp b g pre.length)=some (.gp b g (pre.length+5)):=rfl;have m5:∀(e:List AV) (L:List (List AV)),(St.mk e L H).cells (.gp b g (pre.length+5)) 1=some [.int .i64 l.asked]:=fun e L=>m.cells e L 5 1 (by simp);obtain⟨H1,s1,m1,l1,r1⟩:=m.store (i:=5) (vs:=[.int .i64 (IntKind.i64.wrap (l.asked+1))]) (by simp) rfl;have ov:c8 [.int .i64 l.peer,.bool l.up,wX,.int .i64 l.next,w4,.int .i64 l.asked,w6] 5 [.int .i64 (IntKind.i64.wrap (l.asked+1))]=[.int .i64 l.peer,.bool l.up,wX,.int .i64 l.next,w4,.int .i64 (IntKind.i64.wrap (l.asked+1)),w6]:=rfl;rw[ov]at m1;have o41:=o4.frame (h':=H1) fun c hc=>r1 c (fun e=>hb (by rw[←e];simp[hc]));have q4:∀(e:List AV) (L:List (List AV)),(St.mk e L H1).cells (.gp b g (pre.length+4)) 1=some [w4]:=fun e L=>m1.cells e L 4 1 (by simp);have q5:∀(e:List AV) (L:List (List AV)),(St.mk e L H1).cells (.gp b g (pre.length+5)) 1=some [.int .i64 (IntKind.i64.wrap (l.asked+1))]:=fun e L=>m1.cells e L 5 1 (by simp);obtain⟨v',H',fp',ea,o',nd',hf',hl',hm'⟩:=df (bytes:=16) o41 (ys:=[.int .i64 (IntKind.i64.wrap (l.asked+1)),.int .i64 en]) (row:=[.i .i64 (IntKind.i64.wrap (l.asked+1)),.i .i64 en]) (f2:=[]) (by simpa using n4) (by omega) rfl (.i (.i .nil)) (by simp only[Aaf,aU];omega);obtain⟨cv1,cv2,cv3,cv4⟩:=o'.cell;obtain⟨c41,c42,c43,c44⟩:=o4.cell;have mH:=m1.frame (hf' b (fun h=>hb (by simp[h])) (by omega));have hbv:b∉fp':=fun h=>by
  rcases hm' b h with g|g|g
  ·exact hb (by simp[g])
  ·simp at g
  ·omega
 obtain⟨H3,s3,m3',l3,r3⟩:=mH.store (i:=4) (vs:=[v']) (by simp) (by simp only[je,jg,cv3,Aar]);have Uf:c8 [.int .i64 l.peer,.bool l.up,wX,.int .i64 l.next,w4,.int .i64 (IntKind.i64.wrap (l.asked+1)),w6] 4 [v']=[.int .i64 l.peer,.bool l.up,wX,.int .i64 l.next,v',.int .i64 (IntKind.i64.wrap (l.asked+1)),w6]:=rfl;rw[Uf]at m3';have q6:∀(e:List AV) (L:List (List AV)),(St.mk e L H3).cells (.gp b g (pre.length+5)) 1=some [.int .i64 (IntKind.i64.wrap (l.asked+1))]:=fun e L=>m3'.cells e L 5 1 (by simp);refine ZT (aC aG mixed [] _ _ _ ?_);unfold Ol;simp only[au,Aaa,Aab,Mp,F0,wB,EA,f4',f5',m5,s1,q4,q5,ji,sO,sI,sK,c41,c42,c43];simp only[au,Aaa,Aab,Mp,F0,wB,EA,ea,s3,q6,cv1,cv2,cv3];have ap:∀c∈fX++f6,H3[c]? = H[c]?:=fun c hc=>by
  have h1:c<H.length:=by
   rcases Aad.1 hc with g|g
   ·exact oX.lt c g
   ·exact o6.lt c g
  have h4:c∉f4:=fun h4=>by
   rcases Aad.1 hc with g|g
   ·exact dX c g c (by simp[h4]) rfl
   ·exact d46 c h4 c g rfl
  have h2:c≠b:=fun e=>hb (by
   rw[←e];rcases Aad.1 hc with g|g
   ·simp[g]
   ·simp[g])
  rw[r3 c h2,hf' c h4 (by omega),r1 c h2]
 have oX':=oX.frame (h':=H3) fun c hc=>ap c (by simp[hc]);have o6':=o6.frame (h':=H3) fun c hc=>ap c (by simp[hc]);have o43:=o'.frame (h':=H3) fun c hc=>r3 c (fun e=>hbv (by rw[←e];exact hc));refine⟨rfl,rfl,by omega,_,fX++(fp'++f6),m3',?_,Aac.2 ⟨nX,Aac.2 ⟨nd',n6,fun x hx y hy e=>?_⟩,fun x hx y hy e=>?_⟩,fun c hc=>?_,fun c hc hcb hcl=>?_⟩
 ·exact gB (l:=(lO l en).1) oX' (by simpa[lO,aB.cd]using o43) o6'
 ·subst e;rcases hm' x hx with g|g|g
  ·exact d46 x g x hy rfl
  ·simp at g
  ·have:=o6.lt x hy;omega
 ·subst e;rcases Aad.1 hy with q|q
  ·rcases hm' x q with g|g|g
   ·exact dX x hx x (by simp[g]) rfl
   ·simp at g
   ·have:=oX.lt x hx;omega
  ·exact dX x hx x (by simp[q]) rfl
 ·simp only[Aad]at hc ⊢;rcases hc with q|q|q
  ·exact .inl (.inl q)
  ·rcases hm' c q with g|g|g
   ·exact .inl (.inr (.inl g))
   ·simp at g
   ·exact .inr (by omega)
  ·exact .inl (.inr (.inr q))
 ·rw[r3 c hcb,hf' c (fun h=>hc (by simp[h])) (by omega),r1 c hcb]
theorem vz(l:List aE):(l.map aE.cd).flatten.all CD.flat=true:=by
 rw[List.all_flatten,List.all_eq_true];intro y hy;obtain⟨x,_,rfl⟩:=Aaz.1 hy;rfl
theorem ve(l:List aE):(l.map (aE.c false)).flatten=(l.map aE.cd).flatten.map (CD.av false):=yx (fun x=>(aE.bO false x).symm) l
theorem FM(l:List aE):((l.map (aE.c false)).flatten).all bM=true:=zh (fun x hx=>by obtain⟨y,_,rfl⟩:=Aaz.1 hx;rfl)
theorem DW(l:List aE)(hl:l.length≤1048577){k:Nat}(hk:k<l.length)(H:AH){a:AV}{fp:List Nat}(o:b9 H a (.sl 3 (l.map aE.cd)) fp)(nd:fp.Nodup):
 T pQ Γ Fn.kby [a,.int .i64 k,.int .i64 ((k+1:Nat):Int)] H fun v h'=>(h'.length=H.length∧(∀c,c∉fp→h'[c]? = H[c]?)∧b9 h' v (.sl 3 ((l.eraseIdx k).map aE.cd)) fp):=by
 obtain⟨ac1,ac2,ac3,ac4⟩:=o.cell;rcases o.qZ with⟨rfl,e,rfl⟩|⟨b,g,cap,ex,az,tail,fp',rfl,rfl,hg,hsz,ht,hc,hown⟩
 ·have:l=[]:=by simpa using e
  subst this;simp at hk
 have hfp':fp'=[]:=zF (vz l) hown;subst hfp';have has:az=(l.map (aE.c false)).flatten:=(yu (vz l) hown).trans (ve l).symm;subst has;simp only[Aaf]at hc ac1 ac2 ac3 ac4 ⊢;have La:Ce false (.gs b g 0 l.length cap 3 ex)=some (.int .i64 l.length):=rfl;have q3:=fun S:St=>MY S (b:=b) (g:=g) (len:=l.length) (cap:=cap) (sz:=3) (ex:=ex) (l:=k) (h:=k+1) (m:=l.length) (by omega) (by omega) hc.1;have qt:=fun S:St=>Hu S (b:=b) (g:=g) (len:=l.length) (cap:=cap) (sz:=3) (ex:=ex) (i:=k) (by omega);have qf:=fun S:St=>Dn S (b:=b) (g:=g) (len:=l.length) (cap:=cap) (sz:=3) (ex:=ex) (i:=k+1) (by omega) hc.1;have qa:=fun(e:List AV) (L:List (List AV))=>Na (c:=aE.c false) (sz:=3) (fun x=>rfl) l hk tail (bytes:=24) (ex:=ex) hg hc.1 (FM l) (by omega) (by simp only[aU];omega) e L;have hbl:b<H.length:=eS hg;generalize hm:l.take k++(l.drop (k+1)++l.drop (l.length-1))=m at qa;have hml:m.length=l.length:=by rw[←hm];simp;omega
 have hmt:m.take (l.length-1)=l.eraseIdx k:=by
  rw[←hm,←List.append_assoc,Aah,List.take_left' (by simp;omega)]
 generalize hH2:H.set b (some (g,(m.map (aE.c false)).flatten++tail))=H2 at qa;have hg2:cF H2 b=some (g,(m.map (aE.c false)).flatten++tail):=by rw[←hH2];simp[cF,hbl]
 have La2:Ce false (.gs b g 0 (l.length-1) cap 3 ex)=some (.int .i64 ((l.length-1:Nat):Int)):=rfl;have qb:=fun S:St=>GJ S (b:=b) (g:=g) (len:=l.length-1) (cap:=cap) (sz:=3) (ex:=ex) (l:=l.length-1) (h:=l.length) (by omega) hc.1;have hcl:∀(e:List AV) (L:List (List AV)),Cx ⟨e,L,H2⟩ 3 [.int .i64 0,.int .i64 0,.int .i64 0] (.gs b g ((l.length-1)*3) (l.length-(l.length-1)) (cap-(l.length-1)) 3 ex)=some ⟨e,L,H2.set b (some (g,((m.take (l.length-1)).map (aE.c false)).flatten++((List.replicate (l.length-(l.length-1)) (aE.c false (aE.mk 0 0 0))).flatten++tail)))⟩:=fun e L=>by
  have:=BR (c:=aE.c false) (sz:=3) (fun x=>rfl) (show l.length-1≤m.length by omega) (aE.mk 0 0 0) tail rfl hg2 e L;rw[hml]at this;simp only[Cx,if_true];rw[if_neg (by omega)];exact this
 have he:((k:Int) == ((k+1:Nat):Int))=false:=beq_eq_false_iff_ne.2 (by omega);refine Wf (aC aG mixed [] _ _ _ ?_);unfold Rc;simp only[au,Aaa,Aab,NH,Ky,zP,cK,ER,La,Tq,tC,yk,Qh,F9,q3,qt,qf,qa,he,La2,qb,hcl,AR.G5];have hbl2:b<H2.length:=eS hg2;rw[hmt];have hel:(l.eraseIdx k).length=l.length-1:=by rw[List.length_eraseIdx,if_pos hk]
 refine⟨rfl,by rw[←hH2];simp,fun c hcn=>?_,?_⟩
 ·have hcb:c≠b:=fun e=>hcn (by simp[e]);rw[Aaq (Ne.symm hcb),←hH2,Aaq (Ne.symm hcb)]
 ·have hrl:(List.replicate (l.length-(l.length-1)) (aE.c false (aE.mk 0 0 0))).flatten.length=(l.length-(l.length-1))*3:=by
   have:=B3 (xs:=List.replicate (l.length-(l.length-1)) (aE.c false (aE.mk 0 0 0))) (sz:=3) (fun y hy=>by rw[(Aav.1 hy).2];rfl);simpa using this
  have:=b9.sl_mk (h:=H2.set b (some (g,((l.eraseIdx k).map (aE.c false)).flatten++((List.replicate (l.length-(l.length-1)) (aE.c false (aE.mk 0 0 0))).flatten++tail)))) (b:=b) (g:=g) (cap:=cap) (sz:=3) (ex:=ex) (zas:=((l.eraseIdx k).map (aE.c false)).flatten) (tail:=(List.replicate (l.length-(l.length-1)) (aE.c false (aE.mk 0 0 0))).flatten++tail) (xs:=(l.eraseIdx k).map aE.cd) (fp:=[])
   (by simp[cF,hbl2]) (fun y hy=>by obtain⟨x,_,rfl⟩:=Aaz.1 hy;rfl) (fun x hx=>by
    rcases Aad.1 hx with hx|hx
    ·obtain⟨y,hy,hxy⟩:=List.mem_flatten.1 hx;rw[(Aav.1 hy).2]at hxy;simp[aE.c]at hxy;rw[hxy];exact .i _ _
    ·exact ht x hx) ⟨by rw[Aaf,hel];omega,by rw[Aaf,hel,Aaw,hrl];have:=hc.2;omega⟩ (by rw[ve];exact pI false (vz _))
  rw[Aaf,hel]at this;exact this
set_option maxHeartbeats 1000000 in
theorem OL(β:Bool)(l:aF)(hl:l.ok 1048576)(en:Int)(h:AH):T pQ Γ Fn.Vp [.agg (l.c β),.int .i64 en] h (aX h [.a (lO l en).1.cd,.c (.i .i64 (lO l en).2)]):=by
 refine T.AZ rfl ?_;refine ZI (aC aG mixed [] _ _ _ ?_);unfold SY;simp only[au,Aaa,Aab,Lx,Fe,wC,cK,ER,aF.c];refine al.ref (by simp only[EO]) (It β l hl _) ?_;rintro _ H1 fr;replace fr:aX h _ _ _:=fr;obtain⟨aw,fw,rfl,ow,nw,bw,ew⟩:=fr.a1;obtain⟨wX,w4,w6,fX,f4,f6,rfl,rfl,oX,o4,o6⟩:=ck ow;obtain⟨nX,n46,dX⟩:=Aac.1 nw;obtain⟨n4,n6,d46⟩:=Aac.1 n46;obtain⟨a1,a2,a3,a4⟩:=oX.cell;obtain⟨b1,b2,b3,b4⟩:=o4.cell;obtain⟨c1,c2,c3,c4⟩:=o6.cell;have hl2:=hl.2.1;obtain⟨v',H',fp',ea,o',nd',hf',hl',hm'⟩:=df (bytes:=16) o4 (ys:=[.int .i64 (IntKind.i64.wrap (l.asked+1)),.int .i64 en]) (row:=[.i .i64 (IntKind.i64.wrap (l.asked+1)),.i .i64 en]) (f2:=[]) (by simpa using n4) (by omega) rfl (.i (.i .nil)) (by simp only[Aaf,aU];omega);obtain⟨e1,e2,e3,e4⟩:=o'.cell;simp only[au,Aaa,Aab,Lx,Fe,wC,EA,cK,ER,aF.c,ji,sO,sI,sK,a1,a2,a3,b1,b2,b3,c1,c2,c3,ea,e1,e2,e3];have ap:∀c∈fX++f6,H'[c]? = H1[c]?:=fun c hc=>hf' c (fun h4=>by
  rcases Aad.1 hc with g|g
  ·exact dX c g c (by simp[h4]) rfl
  ·exact d46 c h4 c g rfl) (by
  rcases Aad.1 hc with g|g
  ·exact oX.lt c g
  ·exact o6.lt c g)
 have oX':=oX.frame (h':=H') fun c hc=>ap c (by simp[hc]);have o6':=o6.frame (h':=H') fun c hc=>ap c (by simp[hc]);have hx:=ew.CZ hl' hf' (fun c hc=>bw c (by simp[hc]));obtain⟨N,hN⟩:=hx.out;have el:=ew.len;refine⟨EX 1 rfl,by simp only[Aas,Aay,EO,a3,e3,c3],_,N,fX++(fp'++f6),by rw[CD.mY];rfl,hN,?_,Aac.2 ⟨nX,Aac.2 ⟨nd',n6,fun x hx y hy e=>?_⟩,fun x hx y hy e=>?_⟩,fun c hc=>?_⟩
 ·exact gB (l:=(lO l en).1) oX' (by simpa[lO,aB.cd]using o') o6'
 ·subst e;rcases hm' x hx with g|g|g
  ·exact d46 x g x hy rfl
  ·simp at g
  ·have:=o6.lt x hy;omega
 ·subst e;rcases Aad.1 hy with q|q
  ·rcases hm' x q with g|g|g
   ·exact dX x hx x (by simp[g]) rfl
   ·simp at g
   ·have:=oX.lt x hx;omega
  ·exact dX x hx x (by simp[q]) rfl
 ·simp only[Aad]at hc;rcases hc with q|q|q
  ·exact bw c (by simp[q])
  ·rcases hm' c q with g|g|g
   ·exact bw c (by simp[g])
   ·simp at g
   ·omega
  ·exact bw c (by simp[q])
def qo(l:aF)(pos c:Int):aF:=
  if c<1 then l else if iq (fun x:aE=>x.pos == pos) l.exports<0 then l else
    (let k:=(iq (fun x:aE=>x.pos == pos) l.exports).toNat
     if IntKind.i64.wrap ((l.exports.getD k default).count-c)<1 then { l with exports:=l.exports.eraseIdx k }
     else { l with exports:=l.exports.set k { l.exports.getD k default with count:=IntKind.i64.wrap ((l.exports.getD k default).count-c) } })
theorem tQ{l:aF}{pos c:Int}(h:c<1):qo l pos c=l:=by unfold qo;rw[if_pos h]
theorem uH{l:aF}{pos c:Int}(h:iq (fun x:aE=>x.pos == pos) l.exports = -1):qo l pos c=l:=by unfold qo;rw[h];split<;>rfl
theorem Eo{l:aF}{pos c:Int}(hc:¬c<1){k:Nat}(hk:k<l.exports.length)(h:iq (fun x:aE=>x.pos == pos) l.exports=(k:Int)):
 qo l pos c=if IntKind.i64.wrap (l.exports[k].count-c)<1 then { l with exports:=l.exports.eraseIdx k }else { l with exports:=l.exports.set k { l.exports[k]with count:=IntKind.i64.wrap (l.exports[k].count-c) } }:=by
 unfold qo;rw[if_neg hc,h,if_neg (by omega)];simp[Aao,hk]
set_option maxHeartbeats 1000000 in
theorem V2(l:aF)(hl:l.exports.length≤1048576)(pos c:Int)(H:AH){b g:Nat}{pre row post:List AV}{f:List Nat}(m:pj H b g pre row post)(o:aM H row l.cd f)(nd:f.Nodup)(hb:b∉f):
 T pQ Γ Fn.kay [.gp b g pre.length,.int .i64 pos,.int .i64 c] H fun v h'=>v=.tup []∧H.length≤h'.length∧∃row' f',pj h' b g pre row' post∧aM h' row' (qo l pos c).cd f'∧f'.Nodup∧(∀c∈f',c∈f∨H.length≤c)∧(∀c,c∉f→c≠b→c<H.length→h'[c]? = H[c]?):=by
 have sn:=m.snap (aM.fk (aF.bO true _) o);have bl:=m.lt;have own0:=o;obtain⟨wX,w4,w6,fX,f4,f6,rfl,rfl,oX,o4,o6⟩:=ck o;obtain⟨nX,n46,dX⟩:=Aac.1 nd;have f2':rH 2 (.gp b g pre.length)=some (.gp b g (pre.length+2)):=rfl;have m2:∀(e:List AV) (L:List (List AV)),(St.mk e L H).cells (.gp b g (pre.length+2)) 1=some [wX]:=fun e L=>m.cells e L 2 1 (by simp);refine YX (aC aG mixed [] _ _ _ ?_);unfold Rs;simp only[au,Aaa,Aab,Bp];refine al.fk (by simp only[EO]) (aI sn (aI (.same _) aZ)) (fun h=>J8 true l hl pos h (Ptr.ip h true _)) (.int _ _) ?_;obtain⟨cX1,cX2,cX3,cX4⟩:=oX.cell;have same:qo l pos c=l→(H.length≤H.length∧∃row' f',pj H b g pre row' post∧aM H row' (qo l pos c).cd f'∧f'.Nodup∧(∀c∈f',c∈fX++(f4++f6)∨H.length≤c)∧(∀c,c∉fX++(f4++f6)→c≠b→c<H.length→H[c]? = H[c]?)):=fun e=>⟨AaA _,_,_,m,by rw[e];exact own0,nd,fun c hc=>.inl hc,fun _ _ _ _=>rfl⟩
 rcases iB (fun x:aE=>x.pos == pos) l.exports with⟨k,hk,e1,e2,e3⟩|⟨e1,e2,e3⟩
 rotate_left
 ·simp only[au,Aaa,Aab,Bp,ER,e1,show decide ((-1:Int)<0)=true from rfl];first|exact⟨rfl,rfl,same (uH e1)⟩|exact⟨rfl,same (uH e1)⟩
 by_cases hc:c<1
 ·simp only[au,Aaa,Aab,Bp,ER,e1,aW (show ¬(k:Int)<0 by omega),aR hc];first|exact⟨rfl,rfl,same (tQ hc)⟩|exact⟨rfl,same (tQ hc)⟩
 have re:=Eo hc hk e1;obtain⟨lf,hlf⟩:∃lf,lf=IntKind.i64.wrap (l.exports[k].count-c):=⟨_,rfl⟩
 rw[←hlf]at re;have hkm:k<(l.exports.map aE.cd).length:=by simpa using hk
 obtain⟨bX,gX,a,fa,i0,blX,bmX,rd,oa,na,ma,ba,st⟩:=oX.lens nX hkm (off:=2) (by omega) (by simp[aE.cd]);simp only[Aai,aE.cd,Aaj,Aak,j6]at oa;obtain⟨rfl,rfl⟩:=oa;obtain⟨H2,fp2,s1,o2,n2,mm2,l2,r2⟩:=st H (.int .i64 lf) (.i .i64 lf) [] (.i _ _) (by simp) (by simp) (fun _ _ _=>rfl);have bne:bX≠b:=fun e=>hb (by rw[←e];simp[bmX]);have mH:=m.frame (r2 b (Ne.symm bne));have m2':∀(e:List AV) (L:List (List AV)),(St.mk e L H2).cells (.gp b g (pre.length+2)) 1=some [wX]:=fun e L=>mH.cells e L 2 1 (by simp);have mfp:∀c∈fp2,c∈fX:=fun c hc=>(mm2 c hc).elim id (by simp);have hk2:k<((l.exports.map aE.cd).set k (((l.exports.map aE.cd)[k]).set 2 (.i .i64 lf))).length:=by simpa using hk
 obtain⟨az,fz,_,rz,oz,_,_,lz⟩:=Bl o2 n2 hk2 i0;have oo:=oz;simp only[Aap,Aai,aE.cd,Aat,Aau,jv,jy,j6]at oo;obtain⟨_,_,_,_,ez,_,⟨rfl,rfl⟩,⟨_,_,_,_,rfl,_,⟨rfl,rfl⟩,⟨_,_,_,_,rfl,_,⟨rfl,rfl⟩,_⟩⟩⟩:=oo;subst ez;have rp:∀(e:List AV) (L:List (List AV)),(St.mk e L H2).cells (.gp bX gX (k*3+2)) 1=some [.int .i64 lf]:=fun e L=>by
  rw[rz e L 2 1 (by omega)];simp at lz;simp[sub]
 have fX2:rH 2 (.gp bX gX (k*3))=some (.gp bX gX (k*3+2)):=rfl;have key:(((l.exports.map aE.cd).set k (((l.exports.map aE.cd)[k]).set 2 (.i .i64 lf))))=(l.exports.set k { l.exports[k]with count:=lf }).map aE.cd:=by
  rw[Aax];simp[aE.cd]
 rw[key]at o2;have o4':=o4.frame (h':=H2) fun c hc=>r2 c (fun e=>dX bX bmX c (by simp[hc]) e.symm);have o6':=o6.frame (h':=H2) fun c hc=>r2 c (fun e=>dX bX bmX c (by simp[hc]) e.symm);have wk:IntKind.i64.wrap ((k:Int)+1)=((k+1:Nat):Int):=wN (by omega);have fl:∀c,c∉fX++(f4++f6)→c≠b→c<H.length→H2[c]? = H[c]?:=fun c hc _ _=>r2 c (fun e=>hc (by rw[e];simp[bmX]));by_cases hlt:lf<1;rotate_left
 ·rw[if_neg hlt]at re;simp only[au,Aaa,Aab,Bp,ER,e1,aW (show ¬(k:Int)<0 by omega),aW hc,f2',m2,i0,fX2,rd,←hlf,s1,m2',rp,aW hlt];have fin:H.length≤H2.length∧∃row' f',pj H2 b g pre row' post∧aM H2 row' (qo l pos c).cd f'∧f'.Nodup∧(∀c∈f',c∈fX++(f4++f6)∨H.length≤c)∧(∀c,c∉fX++(f4++f6)→c≠b→c<H.length→H2[c]? = H[c]?):=by
   refine⟨by omega,_,fp2++(f4++f6),mH,?_,Aac.2 ⟨n2,n46,fun x hx y hy=>dX x (mfp x hx) y hy⟩,fun c hc=>?_,fl⟩
   ·rw[re];exact gB (l:={ l with exports:=l.exports.set k { l.exports[k]with count:=lf } }) o2 o4' o6'
   ·rcases Aad.1 hc with g|g
    ·exact .inl (Aae _ (mfp c g))
    ·exact .inl (Aag _ g)
  first|exact⟨rfl,rfl,fin⟩|exact⟨rfl,fin⟩
 rw[if_pos hlt]at re;simp only[au,Aaa,Aab,Bp,ER,e1,aW (show ¬(k:Int)<0 by omega),aW hc,f2',m2,i0,fX2,rd,←hlf,s1,m2',rp,aR hlt,wk];have hks:k<(l.exports.set k { l.exports[k]with count:=lf }).length:=by simpa using hk
 refine al.ref (by simp only[EO,cX4,cX3]) (DW (l.exports.set k { l.exports[k]with count:=lf }) (by simp;omega) hks _ o2 n2) ?_;rintro v' H3 ⟨l3,r3,o3⟩;replace l3:H3.length=H2.length:=l3;replace r3:∀c,c∉fp2→H3[c]? = H2[c]?:=r3;have he:(l.exports.set k { l.exports[k]with count:=lf }).eraseIdx k=l.exports.eraseIdx k:=by
  rw[Aah,Aah,List.take_set_of_le (AaA _),List.drop_set_of_lt (by omega)]
 rw[he]at o3;obtain⟨v1,v2,v3,v4⟩:=o3.cell;have hbf:b∉fp2:=fun hm=>hb (Aae _ (mfp b hm));have mH3:=mH.frame (r3 b hbf);obtain⟨H4,s4,m4,l4,r4⟩:=mH3.store (i:=2) (vs:=[v']) (by simp) (by simp only[je,jg,v3,Aar]);have ov:c8 [.int .i64 l.peer,.bool l.up,wX,.int .i64 l.next,w4,.int .i64 l.asked,w6] 2 [v']=[.int .i64 l.peer,.bool l.up,v',.int .i64 l.next,w4,.int .i64 l.asked,w6]:=rfl;rw[ov]at m4;simp only[au,Aaa,Aab,Bp,ER,v1,v2,v3,f2',s4];have fin:H.length≤H4.length∧∃row' f',pj H4 b g pre row' post∧aM H4 row' (qo l pos c).cd f'∧f'.Nodup∧(∀c∈f',c∈fX++(f4++f6)∨H.length≤c)∧(∀c,c∉fX++(f4++f6)→c≠b→c<H.length→H4[c]? = H[c]?):=by
  have ap:∀c∈f4++f6,H4[c]? = H2[c]?:=fun c hc=>by
   rw[r4 c (fun e=>hb (by rw[←e];exact Aag _ hc)),r3 c (fun hm=>dX c (mfp c hm) c hc rfl)]
  refine⟨by omega,_,fp2++(f4++f6),m4,?_,Aac.2 ⟨n2,n46,fun x hx y hy=>dX x (mfp x hx) y hy⟩,fun c hc=>?_,fun c hc hcb hcl=>?_⟩
  ·rw[re];exact gB (l:={ l with exports:=l.exports.eraseIdx k }) (o3.frame fun c hc=>r4 c (fun e=>hbf (e▸hc))) (o4'.frame fun c hc=>ap c (by simp[hc])) (o6'.frame fun c hc=>ap c (by simp[hc]))
  ·rcases Aad.1 hc with g|g
   ·exact .inl (Aae _ (mfp c g))
   ·exact .inl (Aag _ g)
  ·rw[r4 c hcb,r3 c (fun hm=>hc (Aae _ (mfp c hm))),fl c hc hcb hcl]
 first|exact⟨rfl,rfl,fin⟩|exact⟨rfl,fin⟩
theorem wR{H:AH}{cells:List AV}{v:ar}{f:List Nat}(o:aM H cells v.cd f):∃wE w2 wL w4 fE f2 fL f4,cells=[.int .i64 v.id,wE,w2,wL,w4]∧f=fE++(f2++(fL++f4))∧b9 H wE (.sl 12 (v.entities.map aA.cd)) fE∧b9 H w2 (.sl 7 (v.loop.map aK.cd)) f2∧b9 H wL (.sl 7 (v.aq.map aF.cd)) fL∧b9 H w4 (.sl 13 (v.out.map aY.cd)) f4:=by
 simp only[ar.cd,jv,jy,j6,oF,nF]at o;obtain⟨_,_,_,_,rfl,rfl,⟨rfl,rfl⟩,⟨wE,_,fE,_,rfl,rfl,oE,⟨w2,_,f2,_,rfl,rfl,o2,⟨wL,_,fL,_,rfl,rfl,oL,⟨w4,_,f4,_,rfl,rfl,o4,⟨rfl,rfl⟩⟩⟩⟩⟩⟩:=o;exact⟨wE,w2,wL,w4,fE,f2,fL,f4,rfl,by simp,oE,o2,oL,o4⟩
theorem Xy(β:Bool)(x:aF)(peer:Int)(H:AH){p:AV}(hp:Ptr H p [.int .i64 peer]):T pQ Γ Fn.kaU [.agg (x.c β),p] H fun v h'=>v=.bool (x.peer == peer && x.up)∧h'=H:=by
 have hc:∀(e:List AV) (l:List (List AV)),(St.mk e l H).cells p 1=some [.int .i64 peer]:=fun e l=>hp.rd0 e l 0 (by simp);refine Wg (aC aG mixed [] _ _ _ ?_);unfold QW;cases hp:x.peer == peer
 ·simp only[au,Aaa,Aab,Lo,aF.c,hc,hp];first|exact⟨rfl,rfl⟩|exact rfl
 ·simp only[au,Aaa,Aab,Lo,aF.c,hc,hp];first|exact⟨rfl,rfl⟩|exact rfl
set_option maxHeartbeats 1000000 in
theorem A0(v:ar)(hv:v.aq.length≤1048576)(peer:Int)(H:AH){b:Nat}{wE w2 wL w4:AV}{f:List Nat}(hb:cF H b=some (0,[.int .i64 v.id,wE,w2,wL,w4]))(ow:aM H [.int .i64 v.id,wE,w2,wL,w4] v.cd f)(nd:f.Nodup):
 T pQ Γ Fn.kaT [.gp b 0 0,.int .i64 peer] H fun r h'=>(∃N,h'=H++N)∧((rO v.aq peer=true∧∃k:Nat,∃hk:k<v.aq.length,iq (fun x:aF=>x.peer == peer) v.aq=(k:Int)∧fh 7 wL (k:Int)=some r)∨(rO v.aq peer=false∧r=.nilp)):=by
 have hp0:Ptr H (.gp b 0 0) [.int .i64 v.id,wE,w2,wL,w4]:=Ptr.Ud hb;have hp:Ptr (H++[some (0,[.int .i64 peer])]) (.gp b 0 0) [.int .i64 v.id,wE,w2,wL,w4]:=hp0.grow _;have ow':=ow.grow (new:=[some (0,[AV.int .i64 peer])]);obtain⟨_,_,_,_,fE,f2,fL,f4,e,rfl,oE,o2,oL,o4⟩:=wR ow';injection e with _ e;injection e with e1 e;injection e with e2 e;injection e with e3 e;injection e with e4 _
 subst e1 e2 e3 e4;obtain⟨a1,a2,a3,a4⟩:=oE.cell;obtain⟨b1,b2,b3,b4⟩:=o2.cell;obtain⟨c1,c2,c3,c4⟩:=oL.cell;obtain⟨d1,d2,d3,d4⟩:=o4.cell;refine XN (aC aG mixed [3] _ _ _ ?_);unfold NY;simp only[au,Aaa,Aab,CS,vh,pN,xL _ _ (show AaB [AV.int .i64 peer] bM=true from rfl),jH,hp.nil,hp.fld,hp.rd,Aam,Aan,Aal];refine al.fk (by simp only[EO,c4]) (aI (b9.fk (aF.bO true) oL) (aI (IN (Hq (eQ H (0,[AV.int .i64 peer])))) aZ)) (fun h=>AB (g:=Fn.kaU) (caps:=[.ip true [.int .i64 peer]]) rfl rfl (fun x=>x.peer == peer && x.up) true v.aq hv (fun x hx=>Xy true x peer _ (Ptr.ip h true _))) (.bool _) ?_;simp only[au,Aaa,Aab,CS,vh,pN,hp.nil,hp.fld,hp.rd,hp.rd0,Aam,Aan,Aal,Bx];refine al.fk (by simp only[EO,a3,b3,c3,d3]) (aI (aM.fk (ar.bO true _) ow') (aI (.same _) aZ)) (fun h=>Xt true v hv peer h) (.int _ _) ?_;cases hu:rO v.aq peer
 ·by_cases hi:iq (fun x:aF=>x.peer == peer) v.aq≥0
  ·simp only[au,Aaa,Aab,CS,vh,pN,aR hi,show(v.aq.any fun x=>x.peer == peer && x.up)=false from hu];first|exact⟨rfl,⟨_,rfl⟩,.inr ⟨rfl,rfl⟩⟩|exact⟨rfl,⟨_,rfl⟩,.inr trivial⟩|simp
  ·simp only[au,Aaa,Aab,CS,vh,pN,aW hi];first|exact⟨rfl,⟨_,rfl⟩,.inr ⟨rfl,rfl⟩⟩|exact⟨rfl,⟨_,rfl⟩,.inr trivial⟩|simp
 ·obtain⟨k,hk,e1,e2⟩:=pM hu;have hkm:k<(v.aq.map aF.cd).length:=by simpa using hk
  obtain⟨bL,gL,pre,row,post,fr,i0,_⟩:=oL.sw (Aac.1 (Aac.1 (Aac.1 nd).2.1).2.1).1 hkm;simp only[au,Aaa,Aab,CS,vh,pN,e1,aR (show(k:Int)≥0 by omega),show(v.aq.any fun x=>x.peer == peer && x.up)=true from hu,hp.nil,hp.fld,hp.rd,Aam,Aan,Aal,i0];exact⟨rfl,⟨_,rfl⟩,.inl ⟨k,hk,rfl,i0⟩⟩
def e8(v:ar)(to_:Int)(m:ah):ar:=if rO v.aq to_=true then { v with out:=v.out++[⟨to_,m⟩] }else v
set_option maxHeartbeats 1000000 in
theorem Dp(v:ar)(hL:v.aq.length≤1048576)(ho:v.out.length≤1048576)(to_:Int)(m:ah)(H:AH){b:Nat}{f:List Nat}(a:jr H b v f){am:List AV}{fm:List Nat}(om:aM H am m.cd fm)(nm:fm.Nodup)(dm:∀c∈fm,c∉f∧c≠b):
 T pQ Γ Fn.TL [.gp b 0 0,.int .i64 to_,.agg am] H fun r H'=>r=.tup []∧e9 H b (fun c=>c∈f∨c∈fm) H' (e8 v to_ m):=by
 obtain⟨wE,w2,wL,w4,fE,f2,fL,f4,rfl,o⟩:=a;have hb:=o.hb;have bf:=o.bf;have blt:=o.blt;have vlt:=o.lt;have cb:=VO.Cp hb;obtain⟨a1,a2,a3,a4⟩:=o.oE.cell;obtain⟨b1,b2,b3,b4⟩:=o.o2.cell;obtain⟨c1,c2,c3,c4⟩:=o.oL.cell;obtain⟨d1,d2,d3,d4⟩:=o.o4.cell;obtain⟨_,lE⟩:=dc o.oE;rw[Aaf]at lE;have oo:=om;simp only[ah.cd,jv,jy,j6,oF,nF]at oo;obtain⟨_,_,_,_,rfl,_,⟨rfl,rfl⟩,⟨_,_,_,_,rfl,_,⟨rfl,rfl⟩,⟨_,_,_,_,rfl,_,⟨rfl,rfl⟩,⟨_,_,_,_,rfl,_,⟨rfl,rfl⟩,⟨_,_,_,_,rfl,_,⟨rfl,rfl⟩,⟨az5,_,_,_,rfl,_,uz5,⟨_,_,_,_,rfl,_,⟨rfl,rfl⟩,⟨_,_,_,_,rfl,_,⟨rfl,rfl⟩,⟨_,_,_,_,rfl,_,⟨rfl,rfl⟩,⟨_,_,_,_,rfl,_,⟨rfl,rfl⟩,⟨_,_,_,_,rfl,_,⟨rfl,rfl⟩,⟨_,_,_,_,rfl,_,⟨rfl,rfl⟩,⟨rfl,_⟩⟩⟩⟩⟩⟩⟩⟩⟩⟩⟩⟩⟩:=oo;obtain⟨cz5a,cz5b,cz5c,cz5d⟩:=uz5.cell;refine Xx (aC aG mixed [] _ _ _ ?_);unfold R8;simp only[au,Aaa,Aab,IT,Cl,tX,cK,cb];refine al.fk (by simp only[EO,a3,b3,c3,d3]) (aI (aM.fk (ar.bO true v) o.own) (aI (.same _) aZ)) (fun h=>pg true v hL to_ h) (.bool _) ?_;cases hu:rO v.aq to_
 ·simp only[au,Aaa,Aab,IT,Cl,tX];have e:e8 v to_ m=v:=by rw[e8,hu];rfl
  rw[e];first|exact⟨rfl,rfl,e9.refl o.at fun c hc=>.inl hc⟩|exact⟨rfl,e9.refl o.at fun c hc=>.inl hc⟩|exact e9.refl o.at fun c hc=>.inl hc
 have nd2:(f4++fm).Nodup:=Aac.2 ⟨o.n4,nm,fun x hx y hy e=>(dm y hy).1 (aO.2 (.inr (.inr (.inr (e▸hx)))))⟩;obtain⟨v',H1,f4',ea,o',nd',hf',hl',hm'⟩:=df (bytes:=128) o.o4 nd2 (by omega) rfl (aM.i (k:=.i64) (n:=to_) om) (by simp only[Aaf,aU];omega);obtain⟨j1,j2,j3,j4⟩:=o'.cell;have hb1:cF H1 b=some (0,[.int .i64 v.id,wE,w2,wL,w4]):=by rw[bc (hf' b o.b4 blt)];exact hb
 obtain⟨H2,s2,hb2,l2,r2⟩:=xB hb1 (i:=4) (w:=v') (by simp) j3;simp only[au,Aaa,Aab,IT,Cl,tX,EA,cK,ji,sO,sI,sK,cb,cz5a,cz5b,cz5c,ea,j1,j2,j3,s2];have e:e8 v to_ m={ v with out:=v.out++[⟨to_,m⟩] }:=by rw[e8,hu];rfl
 rw[e];have o2:=o.upd4 (G:=fm) (l':=v.out++[⟨to_,m⟩]) (f4':=f4') hb2 ((by rw[List.map_append];exact o':b9 H1 v' (.sl 13 ((v.out++[(⟨to_,m⟩:aY)]).map aY.cd)) f4').frame fun c hc=>r2 c (fun e=>by
  subst e;rcases hm' c hc with g|g|g
  ·exact o.b4 g
  ·exact(dm c g).2 rfl
  ·omega)) nd' hm' dm (by omega) (fun c h1 h2 h3 h4=>by rw[r2 c h3,hf' c h1 h4])
 have fin:e9 H b (fun c=>c∈dh fE f2 fL f4∨c∈fm) H2 { v with out:=v.out++[⟨to_,m⟩] }:=o2.up (by omega) (fun c hc=>by
  rcases aO.1 hc with g|g|g|g
  ·exact .inl (.inl (aO.2 (.inl g)))
  ·exact .inl (.inl (aO.2 (.inr (.inl g))))
  ·exact .inl (.inl (aO.2 (.inr (.inr (.inl g)))))
  ·rcases hm' c g with q|q|q
   ·exact .inl (.inl (aO.2 (.inr (.inr (.inr q)))))
   ·exact .inl (.inr q)
   ·exact .inr q) (fun c h1 h2 h3=>by rw[r2 c h2,hf' c (fun h=>h1 (.inl (aO.2 (.inr (.inr (.inr h)))))) h3])
 first|exact⟨rfl,rfl,fin⟩|exact⟨rfl,fin⟩|exact fin
def dv(v:ar)(e:aA):ar:=if 200≤v.entities.length then v else { v with entities:=v.entities++[e] }
def k8(v:ar):Int:=if 200≤v.entities.length then -1 else v.entities.length
set_option maxHeartbeats 1000000 in
theorem Lc(v:ar)(x:aA)(H:AH){b:Nat}{f:List Nat}(a:jr H b v f){am:List AV}{fm:List Nat}(om:aM H am x.cd fm)(nm:fm.Nodup)(dm:∀c∈fm,c∉f∧c≠b):
 T pQ Γ Fn.kcB [.gp b 0 0,.agg am] H fun r H'=>r=.int .i64 (k8 v)∧e9 H b (fun c=>c∈f∨c∈fm) H' (dv v x):=by
 obtain⟨wE,w2,wL,w4,fE,f2,fL,f4,rfl,o⟩:=a;have hb:=o.hb;have bf:=o.bf;have blt:=o.blt;have vlt:=o.lt;have cb:=VO.Cp hb;obtain⟨a1,a2,a3,a4⟩:=o.oE.cell;obtain⟨b1,b2,b3,b4⟩:=o.o2.cell;obtain⟨c1,c2,c3,c4⟩:=o.oL.cell;obtain⟨d1,d2,d3,d4⟩:=o.o4.cell;obtain⟨_,lE⟩:=dc o.oE;rw[Aaf]at lE;have oo:=om;simp only[aA.cd,jv,jy,j6,oF,nF]at oo;obtain⟨_,_,_,_,rfl,_,⟨rfl,rfl⟩,⟨_,_,_,_,rfl,_,⟨rfl,rfl⟩,⟨az2,_,_,_,rfl,_,uz2,⟨_,_,_,_,rfl,_,⟨rfl,rfl⟩,⟨_,_,_,_,rfl,_,⟨rfl,rfl⟩,⟨_,_,_,_,rfl,_,⟨rfl,rfl⟩,⟨az6,_,_,_,rfl,_,uz6,⟨az7,_,_,_,rfl,_,uz7,⟨_,_,_,_,rfl,_,⟨rfl,rfl⟩,⟨_,_,_,_,rfl,_,⟨rfl,rfl⟩,⟨_,_,_,_,rfl,_,⟨rfl,rfl⟩,⟨_,_,_,_,rfl,_,⟨rfl,rfl⟩,⟨rfl,_⟩⟩⟩⟩⟩⟩⟩⟩⟩⟩⟩⟩⟩:=oo;obtain⟨cz2a,cz2b,cz2c,cz2d⟩:=uz2.cell;obtain⟨cz6a,cz6b,cz6c,cz6d⟩:=uz6.cell;obtain⟨cz7a,cz7b,cz7c,cz7d⟩:=uz7.cell;refine kcB_e (aC aG mixed [] _ _ _ ?_);unfold NX;simp only[au,Aaa,Aab,HP,Cj,tN,cK,cb];by_cases hf:200≤v.entities.length
 ·simp only[au,Aaa,Aab,HP,Cj,tN,cb,lE,show decide ((200:Int)≤(v.entities.length:Int))=true from aR (by omega)];have e:dv v x=v:=by rw[dv,if_pos hf]
  have e2:k8 v = -1:=by rw[k8,if_pos hf]
  rw[e,e2];first|exact⟨rfl,rfl,e9.refl o.at fun c hc=>.inl hc⟩|exact⟨rfl,e9.refl o.at fun c hc=>.inl hc⟩|exact e9.refl o.at fun c hc=>.inl hc
 have nd2:(fE++fm).Nodup:=Aac.2 ⟨o.nE,nm,fun x hx y hy e=>(dm y hy).1 (aO.2 (.inl (e▸hx)))⟩;obtain⟨v',H1,fE',ea,o',nd',hf',hl',hm'⟩:=df (bytes:=144) o.oE nd2 (by omega) rfl om (by simp only[Aaf,aU];omega);obtain⟨j1,j2,j3,j4⟩:=o'.cell;obtain⟨_,lE'⟩:=dc o';simp only[Aaw,Aaf,Aam,Aan,Nat.zero_add]at lE';have hb1:cF H1 b=some (0,[.int .i64 v.id,wE,w2,wL,w4]):=by rw[bc (hf' b o.bE blt)];exact hb
 obtain⟨H2,s2,hb2,l2,r2⟩:=xB hb1 (i:=1) (w:=v') (by simp) j3;have cb2:∀(e:List AV) (L:List (List AV)) (off n:Nat),(St.mk e L H2).cells (.gp b 0 off) n=sub [.int .i64 v.id,v',w2,wL,w4] off n:=fun e L off n=>b8 hb2;simp only[au,Aaa,Aab,HP,Cj,tN,EA,cK,cb,lE,show decide ((200:Int)≤(v.entities.length:Int))=false from aW (by omega),cz2a,cz2b,cz2c,cz6a,cz6b,cz6c,cz7a,cz7b,cz7c,ea,j1,j2,j3,s2,cb2,lE'];have e:dv v x={ v with entities:=v.entities++[x] }:=by rw[dv,if_neg hf]
 have e2:k8 v=IntKind.i64.wrap (((v.entities.length+1:Nat):Int)-1):=by rw[k8,if_neg hf,jO (by omega) (by omega)];omega
 rw[e,e2];have o2:=o.JZ (G:=fm) (es':=v.entities++[x]) (fE':=fE') hb2 ((by simpa using o':b9 H1 v' (.sl 12 ((v.entities++[x]).map aA.cd)) fE').frame fun c hc=>r2 c (fun e=>by
  subst e;rcases hm' c hc with g|g|g
  ·exact o.bE g
  ·exact(dm c g).2 rfl
  ·omega)) nd' hm' dm (by omega) (fun c h1 h2 h3 h4=>by rw[r2 c h3,hf' c h1 h4])
 have fin:e9 H b (fun c=>c∈dh fE f2 fL f4∨c∈fm) H2 { v with entities:=v.entities++[x] }:=o2.up (by omega) (fun c hc=>by
  rcases aO.1 hc with g|g|g|g
  ·rcases hm' c g with q|q|q
   ·exact .inl (.inl (aO.2 (.inl q)))
   ·exact .inl (.inr q)
   ·exact .inr q
  ·exact .inl (.inl (aO.2 (.inr (.inl g))))
  ·exact .inl (.inl (aO.2 (.inr (.inr (.inl g)))))
  ·exact .inl (.inl (aO.2 (.inr (.inr (.inr g)))))) (fun c h1 h2 h3=>by rw[r2 c h2,hf' c (fun h=>h1 (.inl (aO.2 (.inl h)))) h3])
 first|exact⟨rfl,rfl,fin⟩|exact⟨rfl,fin⟩|exact fin
end Go.Proofs.YtolciaflplefcaaGreat
