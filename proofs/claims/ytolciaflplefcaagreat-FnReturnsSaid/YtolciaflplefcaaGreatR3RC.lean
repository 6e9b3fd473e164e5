import Derived.Test.YtolciaflplefcaaGreatR6G23
set_option linter.unusedVariables false
set_option linter.unusedSimpArgs false
open Nat renaming reduceAdd→Aaa,reduceBEq→Aab,le_refl→Aaj,zero_le→Aao
open List renaming getElem?_eq_getElem→Aac,nodup_append→Aad,take_succ_eq_append_getElem→Aae,nil_append→Aaf,getD_eq_getElem?_getD→Aag,getElem_mem→Aah,mem_append→Aai,mem_of_mem_take→Aak,foldl_append→Aal,take_length→Aam,getElem_map→Aan
namespace Go.Proofs.YtolciaflplefcaaGreat
open Go.AM
variable {Γ:bG}
set_option maxHeartbeats 8000000 in
set_option maxRecDepth 100000 in
theorem RB{n:Nat}(hD:CH Γ n)(hFa:RZ Γ n)(v:ar)(s:aK)(q:List aK)(peer pos:Int)(hmu:mJ v≤n)(hvi:VI v)(hki:KI v)(hrq:RQ (s::q) v)(hs:s.ok 100)(hw:wV v+2+s.args.length≤500000)(H:AH){b:Nat}{wE w2 wL w4:AV}{fE f2 fL f4:List Nat}(o:VO H b v wE w2 wL w4 fE f2 fL f4){am:List AV}{fs:List Nat}(os:aM H am s.cd fs)(ns:fs.Nodup)(ds:∀c∈fs,c∉dh fE f2 fL f4∧c≠b)
 (tt:Option Int) (aw0:AV) (haw:(tt=none∧aw0=.nilp)∨(∃t,tt=some t∧bB t v.entities.length=true∧Gq (aD v t)∧fh 12 wE t=some aw0)):
 T Tryz.prog Γ Fn.kaL [.gp b 0 0,.int .i64 peer,.int .i64 pos,aw0,.agg am] H fun r H'=>r=.tup []∧e9 H b (fun c=>c∈dh fE f2 fL f4∨c∈fs) H' (sB n v s peer pos tt):=by
 obtain⟨wa,rfl,oa⟩:=ku os;have hE:v.entities.length≤1048576:=by have:=hvi.fH;omega
 have hL:v.aq.length≤1048576:=by have:=hvi.aq;omega
 have hb:=o.hb;have blt:=o.blt;have vlt:=o.lt;obtain⟨g1,g2,g3,g4⟩:=oa.cell;have awo:bM aw0=true∧gq aw0=true∧cellsOf aw0=some [aw0]:=by
  rcases haw with⟨_,rfl⟩|⟨t,_,h1,_,h3⟩
  ·exact⟨rfl,rfl,rfl⟩
  ·obtain⟨k,hk,ek,_,_⟩:=cL h1;obtain⟨bR,gR,nR,row,fR,iR,_⟩:=o.jY hk;rw[←ek,h3]at iR;injection iR with iR;subst iR;exact⟨rfl,rfl,rfl⟩
 obtain⟨aw1,aw2,Gq⟩:=awo;refine Y3 (aC aG mixed [] _ _ _ ?_);unfold OA;simp only[au,Aaa,Aab,kL,eM,db,bC,g1,g2,g3];refine al.ref (by simp only[EO]) (A0 v hL peer H hb o.own o.nodup) ?_;rintro rl H0 ⟨⟨N0,hN⟩,hlk⟩;replace hN:H0=H++N0:=hN;have lHH:H.length≤H0.length:=by rw[hN];simp
 have fHH:∀c,c<H.length→H0[c]? = H[c]?:=fun c hc=>by rw[hN,List.getElem?_append_left hc]
 have o0:VO H0 b v wE w2 wL w4 fE f2 fL f4:=o.frame fun c hc=>fHH c (by rcases hc with g|g;exact vlt c g;rw[g];exact blt);have os0:aM H0 _ s.cd fs:=os.frame fun c hc=>fHH c (os.lt c hc);have oa0:b9 H0 wa _ fs:=oa.frame fun c hc=>fHH c (oa.lt c hc);have conv:∀H' v',e9 H0 b (fun c=>c∈dh fE f2 fL f4∨c∈fs) H' v'→e9 H b (fun c=>c∈dh fE f2 fL f4∨c∈fs) H' v':=fun H' v' u=>e9.trans (f1:=dh fE f2 fL f4) lHH (fun c hc=>.inl (.inl hc)) (fun c _ _ hl=>fHH c hl) u (fun c hc=>hc.elim .inl fun h=>.inr (.inl (.inr h)))
 have FAIL:dT v s peer=false→T Tryz.prog Γ Fn.kaP [.gp b 0 0,.agg [.int .i64 s.target,.str s.name,wa,.int .i64 s.result,.int .i64 s.tag.vat,.int .i64 s.tag.entity,.int .i64 s.tag.seq]] H0 fun r H'=>r=.tup []∧e9 H b (fun c=>c∈dh fE f2 fL f4∨c∈fs) H' (sB n v s peer pos tt):=fun h=>by
  rw[JL h];exact(hFa v s q H0 b _ _ fs hmu hvi hki hrq.vD (by omega) o0.at os0).mono fun r H' ⟨h1,h2⟩=>⟨h1,conv _ _ (h2.mono fun c hc=>.inl hc)⟩
 rcases hlk with⟨hup,j,hj,ej,ik⟩|⟨hup,rfl⟩
 rotate_left
 ·have no:dT v s peer=false:=by simp[dT,hup]
  simp only[au,Aaa,Aab,kL,eM,db,bC,g1,g2,g3];refine⟨fun r hr n cs hc=>by rw[show r=22 by simpa using hr]at hc ⊢;exact hc,?_⟩;refine al.ref (by simp only[EO]) (CN hE s.result o0) ?_;rintro r h' ⟨_,e⟩;replace e:h'=H0:=e;subst e;simp only[au,Aaa,Aab,kL,eM,db,bN,g1,g2,g3,ag,ae];refine al.ref (by simp only[EO,g3,g4]) (FAIL no) ?_;rintro _ H' ⟨rfl,fin⟩;simp only[au,Aaa,Aab,kL,eM,db,bC];first|exact⟨rfl,rfl,fin⟩|exact⟨rfl,fin⟩|trace_state
 obtain⟨bK,gK,nK,rowK,fK,iK,_⟩:=o0.vq hj;have ik0:=ik;rw[iK]at ik;injection ik with ik;subst ik
 simp only[au,Aaa,Aab,kL,eM,db,bC,g1,g2,g3];refine⟨fun r hr n cs hc=>by rw[show r=22 by simpa using hr]at hc ⊢;exact hc,?_⟩;refine al.ref (by simp only[EO]) (CN hE s.result o0) ?_;rintro r h' ⟨⟨e1,i1⟩|⟨e1,rfl⟩,e⟩;rotate_left
 ·replace e:h'=H0:=e;subst e;have no:dT v s peer=false:=by simp[dT,e1]
  simp only[au,Aaa,Aab,kL,eM,db,bN,g1,g2,g3,ag,ae];refine al.ref (by simp only[EO,g3,g4]) (FAIL no) ?_;rintro _ H' ⟨rfl,fin⟩;simp only[au,Aaa,Aab,kL,eM,db,bC];first|exact⟨rfl,rfl,fin⟩|exact⟨rfl,fin⟩|trace_state
 replace e:h'=H0:=e;subst e;obtain⟨k,hk,ek,ek2,eA⟩:=cL e1;obtain⟨r0,hr⟩:∃r0,r0=aD v s.result:=⟨_,rfl⟩
 rw[←hr]at eA;obtain⟨bR,gR,preR,row,post,fR,iR,mR,lR,oR,nR,sR,bmR,bnR,_⟩:=o0.ph hk;have i1':=i1;rw[←ek,i1']at iR;injection iR with iR
 subst iR;rw[←eA]at oR;obtain⟨wS,wQ,wA,fS,fQ,fA,rfl,rfl,oS,oQ,oA⟩:=c5 oR;obtain⟨x5,x6,x7,x8⟩:=oQ.cell;have r0':∀(e:List AV) (L:List (List AV)),(St.mk e L h').cells (.gp bR gR (preR.length+0)) 1=some [.int .i64 r0.kind]:=fun e L=>mR.cells e L 0 1 (by simp);have r0'':∀(e:List AV) (L:List (List AV)),(St.mk e L h').cells (.gp bR gR preR.length) 1=some [.int .i64 r0.kind]:=r0';have r3':∀(e:List AV) (L:List (List AV)),(St.mk e L h').cells (.gp bR gR (preR.length+3)) 1=some [.int .i64 r0.state]:=fun e L=>mR.cells e L 3 1 (by simp);by_cases q1:r0.kind=2;rotate_left
 ·have no:dT v s peer=false:=by rw[dT,←hr,aW q1];simp
  simp only[au,Aaa,Aab,kL,eM,db,bN,g1,g2,g3,ag,ae,r0',r0'',r3',aW q1];refine al.ref (by simp only[EO,g3,g4]) (FAIL no) ?_;rintro _ H' ⟨rfl,fin⟩;simp only[au,Aaa,Aab,kL,eM,db,bC];first|exact⟨rfl,rfl,fin⟩|exact⟨rfl,fin⟩|trace_state
 by_cases q2:r0.state=1;rotate_left
 ·have no:dT v s peer=false:=by rw[dT,←hr,aW q2];simp
  simp only[au,Aaa,Aab,kL,eM,db,bN,g1,g2,g3,ag,ae,r0',r0'',r3',aR q1,aW q2];refine al.ref (by simp only[EO,g3,g4]) (FAIL no) ?_;rintro _ H' ⟨rfl,fin⟩;simp only[au,Aaa,Aab,kL,eM,db,bC];first|exact⟨rfl,rfl,fin⟩|exact⟨rfl,fin⟩|trace_state
 have yes:dT v s peer=true:=by rw[dT,hup,e1,←hr,aR q1,aR q2];rfl
 simp only[au,Aaa,Aab,kL,eM,db,bN,g1,g2,g3,ag,ae,r0',r0'',r3',aR q1,aR q2];obtain⟨w1s,w1w,w1i⟩:=uf v s peer;refine al.ref (by simp only[EO,g3,g4]) (YJ v hE hL hvi.Cu peer s.args (by omega) h' o0 oa0 ns (fun c hc h=>(ds c hc).1 (aO.2 (.inr (.inr (.inl h)))))) ?_;rintro ww H1 ⟨fL1,fw,o1,ow,nw,l1,m1,mw,r1⟩;replace o1:VO H1 b (cm v s peer) wE w2 wL w4 fE f2 fL1 f4:=o1;replace ow:b9 H1 ww _ fw:=ow;replace l1:h'.length≤H1.length:=l1;replace mw:∀c∈fw,h'.length≤c∧c∉fL1:=mw;replace r1:∀c,c∉fL→c<h'.length→H1[c]? = h'[c]?:=r1;replace m1:∀c∈fL1,c∈fL∨h'.length≤c:=m1;obtain⟨h1,h2,h3,h4⟩:=ow.cell;simp only[au,Aaa,Aab,kL,eM,db,bN,g1,g2,g3,ag,ae];have hL1:(cm v s peer).aq.length=v.aq.length:=by rw[cm,(nM peer s.args v).2]
 have hj1:j<(cm v s peer).aq.length:=by omega
 have lj:sg (cm v s peer) peer=j:=by
  have e1:iq (fun l:aF=>l.peer == peer) (cm v s peer).aq=(j:Int):=by
   rw[←ej];have hm:=congrArg (List.map Prod.fst) (vJ peer s.args v);simp only[List.map_map]at hm;exact Gh (f:=fun l:aF=>l.peer) (q:=fun n=>n == peer) (by simpa[cm,Function.comp_def]using hm)
  rw[sg,e1];rfl
 have lok1:=(w1i hvi).Cu;refine al.ref (by simp only[EO]) (Zu o1 hj1 (by have:=(lok1 _ (Aah hj1)).2.1;omega) ik0 s.result) ?_;rintro _ H2 ⟨rfl,fL2,o2,l2,m2,r2⟩;replace l2:H1.length≤H2.length:=l2;replace m2:∀c∈fL2,c∈fL1∨H1.length≤c:=m2;replace r2:∀c,c∉fL1→c<H1.length→H2[c]? = H1[c]?:=r2;have hgl:(cm v s peer).aq.getD j default=(cm v s peer).aq[j]:=by rw[Aag,Aac hj1];rfl
 have ev2:({ cm v s peer with aq:=(cm v s peer).aq.set j (lO (cm v s peer).aq[j] s.result).1 }:ar)=oP (cm v s peer) peer s.result:=by rw[oP,lj,hgl];rfl
 have eq2:(lO (cm v s peer).aq[j] s.result).2=sW (cm v s peer) peer s.result:=by rw[sW,lj,hgl]
 replace o2:VO H2 b _ wE w2 wL w4 fE f2 fL2 f4:=o2;rw[ev2]at o2;rw[eq2];obtain⟨qq,hqq⟩:∃qq,qq=sW (cm v s peer) peer s.result:=⟨_,rfl⟩
 rw[←hqq];have sm:=w1s.trans (uo (cm v s peer) peer s.result).1;have hk2:k<(oP (cm v s peer) peer s.result).entities.length:=by rw[sm.fH];exact hk
 obtain⟨bR2,gR2,pre2,row2,post2,fR2,iR2,mR2,lR2,oR2,nR2,sR2,bmR2,bnR2,wr2⟩:=o2.ph hk2;rw[←ek,i1']at iR2;injection iR2 with iR2
 injection iR2 with ja jb jc
 subst ja jb;have ent2:(oP (cm v s peer) peer s.result).entities[k]=r0:=by
  have:(oP (cm v s peer) peer s.result).entities=v.entities:=sm.fH;simp only[this];exact eA.symm
 rw[ent2]at oR2;obtain⟨wS2,wQ2,wA2,fS2,fQ2,fA2,rfl,rfl,oS2,oQ2,oA2⟩:=c5 oR2;obtain⟨z5,z6,z7,z8⟩:=oQ2.cell;obtain⟨_,lQ2⟩:=dc oQ2;rw[List.length_map]at lQ2;have rq6:∀(e:List AV) (L:List (List AV)),(St.mk e L H2).cells (.gp bR gR (preR.length+6)) 1=some [wQ2]:=fun e L=>by rw[jc];exact mR2.cells e L 6 1 (by simp)
 obtain⟨Ha,sa,ma,la,fa⟩:=mR2.put 3 [.int .i64 3] (by simp) rfl;obtain⟨Hb,sb,mb,lb,fb⟩:=ma.put 8 [.int .i64 peer] (by simp[c8]) rfl;obtain⟨Hc,sc,mc,lc,fc⟩:=mb.put 9 [.int .i64 qq] (by simp[c8]) rfl;obtain⟨Hd,sd,md,ld,fd⟩:=mc.put 10 [.int .i64 0] (by simp[c8]) rfl;obtain⟨He,se,me,le,fe⟩:=md.put 6 [.nils] (by simp[c8]) rfl;rw[←jc]at sa sb sc sd se;replace me:pj He bR gR pre2 [.int .i64 r0.kind,.int .i64 r0.script,wS2,.int .i64 3,.int .i64 r0.value.kind,.int .i64 r0.value.n,.nils,wA2,.int .i64 peer,.int .i64 qq,.int .i64 0,.int .i64 r0.sent] post2:=me;have fre:∀c,c≠bR→He[c]? = H2[c]?:=fun c hc=>by rw[fe c hc,fd c hc,fc c hc,fb c hc,fa c hc]
 obtain⟨nS2,nQA2,dS2⟩:=Aad.1 nR2;have nA2:=(Aad.1 nQA2).2.1;have owne:aM He [.int .i64 r0.kind,.int .i64 r0.script,wS2,.int .i64 3,.int .i64 r0.value.kind,.int .i64 r0.value.n,.nils,wA2,.int .i64 peer,.int .i64 qq,.int .i64 0,.int .i64 r0.sent] (kT r0 peer qq).cd (fS2++([]++fA2)):=jo (e:=kT r0 peer qq) (oS2.frame fun c hc=>fre c (fun e=>bnR2 (e▸(by simp[hc])))) (.nil 7) (oA2.frame fun c hc=>fre c (fun e=>bnR2 (e▸(by simp[hc]))));obtain⟨fE7,o7,me7⟩:=wr2 He _ (kT r0 peer qq) (fS2++([]++fA2)) [] (by omega) (fun c hc=>by cases hc) me owne (by
  rw[Aaf];exact Aad.2 ⟨nS2,nA2,fun x hx y hy e=>dS2 x hx y (by simp[hy]) e⟩) (fun c hc=>.inl (by
   simp only[Aaf,Aai]at hc ⊢;exact hc.elim .inl fun h=>.inr (.inr h))) (fun c _ _ _ h=>fre c h)
 have ev7:({ oP (cm v s peer) peer s.result with entities:=(oP (cm v s peer) peer s.result).entities.set k (kT r0 peer qq) }:ar)=hZ v s peer:=by
  rw[hZ,hqq,←hr,ek2];rfl
 rw[ev7]at o7;have hfE7:∀c∈fE7,c∈fE:=fun c hc=>by
  rcases me7 c hc with q|q
  ·exact q.1
  ·exact sR2 c (by
    simp only[Aaf,Aai]at q ⊢;exact q.elim .inl fun h=>.inr (.inr h))
 have ltw:∀c∈fw,c<H1.length:=ow.lt;have bRlt:bR<h'.length:=o0.lt bR (aO.2 (.inl bmR));have fwe:∀c∈fw,He[c]? = H1[c]?:=fun c hc=>by
  rw[fre c (fun e=>by have:=(mw c hc).1;omega),r2 c (mw c hc).2 (ltw c hc)]
 have owe:b9 He ww (.sl 2 ((aQ v peer s.args).2.map aJ.cd)) fw:=ow.frame fwe;have avi:VI (hZ v s peer):=by rw[hZ];exact pw ((uo _ _ _).2.2 (w1i hvi)) _ _ ⟨(gZ hvi s.result).1,fun x hx=>by simp[kT]at hx⟩
 have aout:(hZ v s peer).out=v.out:=(um peer s.args v).2.2.1;have hout:v.out.length≤wV v:=by unfold wV;omega
 have frH:∀c,c∉dh fE f2 fL f4→c<h'.length→He[c]? = h'[c]?:=fun c h1 h2=>by
  have a1:c∉fL:=fun h=>h1 (aO.2 (.inr (.inr (.inl h))));have a2:c∉fL1:=fun h=>by rcases m1 c h with g|g;exact a1 g;omega
  rw[fre c (fun e=>h1 (aO.2 (.inl (e▸bmR)))),r2 c a2 (by omega),r1 c a1 h2]
 have mF7:∀c∈dh fE7 f2 fL2 f4,c∈dh fE f2 fL f4∨h'.length≤c:=fun c hc=>by
  rcases aO.1 hc with g|g|g|g
  ·exact .inl (aO.2 (.inl (hfE7 c g)))
  ·exact .inl (aO.2 (.inr (.inl g)))
  ·rcases m2 c g with q|q
   ·exact(m1 c q).imp (fun h=>aO.2 (.inr (.inr (.inl h)))) id
   ·exact .inr (by omega)
  ·exact .inl (aO.2 (.inr (.inr (.inr g))))
 have fw7:∀c∈fw,c∉dh fE7 f2 fL2 f4∧c≠b:=fun c hc=>by
  have k1:=(mw c hc).1;have k2:=ltw c hc;refine⟨fun h=>?_,fun e=>by have:=o0.blt;omega⟩;rcases aO.1 h with g|g|g|g
  ·have:=o0.lt c (aO.2 (.inl (hfE7 c g)));omega
  ·have:=o0.lt c (aO.2 (.inr (.inl g)));omega
  ·rcases m2 c g with q|q
   ·exact(mw c hc).2 q
   ·omega
  ·have:=o0.lt c (aO.2 (.inr (.inr (.inr g))));omega
 have nQ2:fQ2.Nodup:=(Aad.1 nQA2).1;have nQ7:∀c∈fQ2,c∉dh fE7 f2 fL2 f4:=fun c hc h=>by
  have cE:c∈fE:=sR2 c (by simp[hc]);have cl:c<h'.length:=o0.lt c (aO.2 (.inl cE));rcases aO.1 h with g|g|g|g
  ·rcases me7 c g with q|q
   ·exact q.2 (by simp[hc])
   ·simp only[Aaf,Aai]at q;rcases q with q|q
    ·exact dS2 c q c (by simp[hc]) rfl
    ·exact(Aad.1 nQA2).2.2 c hc c q rfl
  ·exact o0.dE2 c cE g
  ·rcases m2 c g with q|q
   ·rcases m1 c q with p|p
    ·exact o0.dEL c cE p
    ·omega
   ·omega
  ·exact o0.dE4 c cE g
 have fQe:∀c∈fQ2,He[c]? = H2[c]?:=fun c hc=>fre c (fun e=>bnR2 (e▸(by simp[hc])));have nQW:∀c∈fQ2,c<h'.length∧c≠b∧c∈fE:=fun c hc=>by
  have cE:c∈fE:=sR2 c (by simp[hc]);exact⟨o0.lt c (aO.2 (.inl cE)),fun e=>o0.bE (e▸cE),cE⟩
 have hq100:∀x∈r0.queue,x.ok 100:=by rw[hr];exact(gZ hvi s.result).2
 simp only[au,Aaa,Aab,kL,eM,db,bN,g1,g2,g3,ag,ae,h1,h2,h3,rq6,z5,z6,z7,sa,sb,sc,sd,se];rcases haw with⟨rfl,rfl⟩|⟨t,rfl,ht,h3t,it⟩
 ·have yf:fW v s peer pos 0=e8 (hZ v s peer) peer (lN s pos 0 qq (aQ v peer s.args).2):=by
   rw[fW,hqq]
  have oweX:=owe;have aviX:(hZ v s peer).aq.length≤1048576∧(hZ v s peer).out=v.out:=⟨by have:=avi.aq;omega,aout⟩
  have oX:=o7;have fwX:=fw7;have mFX:=mF7;have frX:=frH;simp only[au,Aaa,Aab,kL,eM,db,bN,g1,g2,g3,ag,ae,h1,h2,h3];have omsg:aM He [.int .i64 1,.int .i64 pos,.int .i64 0,.int .i64 qq,.str s.name,ww,.int .i64 0,.int .i64 0,.int .i64 0,.int .i64 s.tag.vat,.int .i64 s.tag.entity,.int .i64 s.tag.seq] (lN s pos 0 qq (aQ v peer s.args).2).cd fw:=by
   have e':fw=fw++[]:=by simp
   rw[e'];exact .i (.i (.i (.i (.s (.o oweX (.i (.i (.i (.i (.i (.i .nil)))))))))))
  refine al.ref (by simp only[EO,h3,h4]) (Bq (hZ v s peer) aviX.1 (by rw[aviX.2];omega) peer (lN s pos 0 qq (aQ v peer s.args).2) He oX.at omsg nw fwX) ?_;rintro _ H8 ⟨rfl,f8,o8,l8,m8,r8⟩;replace o8:jr H8 b (e8 (hZ v s peer) peer (lN s pos 0 qq (aQ v peer s.args).2)) f8:=o8;replace l8:He.length≤H8.length:=l8;replace m8:∀c∈f8,(c∈dh fE7 f2 fL2 f4∨c∈fw)∨He.length≤c:=m8;replace r8:∀c,¬(c∈dh fE7 f2 fL2 f4∨c∈fw)→c≠b→c<He.length→H8[c]? = He[c]?:=r8;rw[←yf]at o8;obtain⟨V8,hV8⟩:∃V8,V8=fW v s peer pos 0:=⟨_,rfl⟩
  obtain⟨k1,k2,k3,k4⟩:=AW (pos:=pos) (ans:=0) yes;rw[←hr,←hV8]at k2;rw[←hV8]at k3;have vi8:VI V8:=by rw[hV8];exact k4 hvi hs
  have ki8:KI V8:=by unfold KI at hki ⊢;rw[hV8,vn];exact hki
  have rq8:RQ (r0.queue++q) V8:=by rw[hV8,hr];exact hrq.call peer pos 0
  have fin8:r0.queue.foldl (aT n) V8=sB n v s peer pos none:=by rw[hV8,sB,if_pos yes,dp,if_pos yes,hr]
  have frQ:=fQe;have subQ:=nQ7;rw[←hV8]at o8;have nQS:∀c∈fQ2,c∉f8∧c≠b∧c<h'.length∧c∈fE:=fun c hc=>by
   obtain⟨cl,cb,cE⟩:=nQW c hc;refine⟨fun h=>?_,cb,cl,cE⟩;rcases m8 c h with(g|g)|g
   ·exact subQ c hc g
   ·have:=(mw c g).1;omega
   ·omega
  have oq8:b9 H8 wQ2 (.sl 7 (r0.queue.map aK.cd)) fQ2:=oQ2.frame fun c hc=>by
   have hh:=nQS c hc;rw[r8 c (fun h=>h.elim (subQ c hc) fun g=>by have:=(mw c g).1;omega) hh.2.1 (by omega),frQ c hc]
  obtain⟨ptr,rws,fpr,qb,hrows⟩:=oq8.rows nQ2;obtain⟨F,hF⟩:∃F:Nat→Prop,F=fun c=>c∈dh fE f2 fL f4∨c∈fs:=⟨_,rfl⟩
  have FE:∀c∈fE,F c:=fun c hc=>by rw[hF];exact .inl (aO.2 (.inl hc))
  have f8F:∀c∈f8,F c∨h'.length≤c:=fun c hc=>by
   rw[hF];rcases m8 c hc with(g|g)|g
   ·exact(mFX c g).imp .inl id
   ·exact .inr (mw c g).1
   ·exact .inr (by omega)
  have r8F:∀c,¬F c→c≠b→c<h'.length→H8[c]? = h'[c]?:=fun c h1 h2 h3=>by
   rw[hF]at h1;have h1':c∉dh fE f2 fL f4:=fun h=>h1 (.inl h);rw[r8 c (fun h=>by
    rcases h with g|g
    ·rcases mFX c g with q|q
     ·exact h1' q
     ·omega
    ·have:=(mw c g).1;omega) h2 (by omega),frX c h1' h3]
  have l8':h'.length≤H8.length:=by omega
  simp only[au,Aaa,Aab,kL,eM,db,bC,z5,z6,z7,lQ2];refine fD aG mixed [] (fun x:Nat×AH×List Nat×List (List AV)=>x.1≤r0.queue.length∧jr x.2.1 b ((r0.queue.take x.1).foldl (aT n) V8) x.2.2.1∧h'.length≤x.2.1.length∧(∀c∈x.2.2.1,F c∨h'.length≤c)∧(∀c,¬F c→c≠b→c<h'.length→x.2.1[c]? = h'[c]?)∧(∀c∈fQ2,(c=qb∨∃j,x.1≤j∧j<r0.queue.length∧c∈fpr j)→x.2.1[c]? = H8[c]?∧c∉x.2.2.1)) (fun x=>r0.queue.length-x.1)
   (fun x=>uV (.gp b 0 0) wQ2 (.int .i64 (r0.queue.length:Nat)) (.int .i64 x.1) x.2.2.2 x.2.1) (0,H8,f8,_) ⟨Aao _,o8,l8',f8F,r8F,fun c hc _=>⟨rfl,(nQS c hc).1⟩⟩ ⟨by simp[uV,gW,gM],rfl,rfl⟩ ?_
  rintro⟨i,Hi,fi,Li⟩ ⟨hi,oi,li,mi,ri,qi⟩;simp only at hi oi li mi ri qi;simp only[au,Aaa,Aab,kL,eM,db,uV,bC];refine bz (fun hlt=>?_) (fun hge=>?_);rotate_left
  ·have hge:i=r0.queue.length:=by simp at hge;omega
   subst hge;rw[Aam]at oi;simp only[au,Aaa,Aab,kL,eM,db,bC];have fin0:e9 h' b (fun c=>c∈dh fE f2 fL f4∨c∈fs) Hi (r0.queue.foldl (aT n) V8):=⟨fi,oi,li,by rw[hF]at mi;exact mi,by rw[hF]at ri;exact ri⟩
   have fin:=conv _ _ fin0
   rw[fin8]at fin;first|exact⟨rfl,rfl,fin⟩|exact⟨rfl,fin⟩|trace_state
  have hlt:i<r0.queue.length:=by simpa using hlt
  obtain⟨p1,p2,p3,p4,p5,p6,p7⟩:=hrows i (by simpa using hlt);rw[Aan]at p3;obtain⟨wa',er,oa'⟩:=ku p3;have cR:∀(e:List AV) (L:List (List AV)),(St.mk e L Hi).cells (ptr i) 7=some (rws i):=fun e L=>p2 Hi e L (qi qb p6 (.inl rfl)).1;rw[er]at cR p3;have pi:aM Hi _ _ (fpr i):=p3.frame fun c hc=>(qi c (p5 c hc).1 (.inr ⟨i,Aaj _,hlt,hc⟩)).1;obtain⟨t1,t2,t3,t4⟩:=oa'.cell;obtain⟨fk1,fk2,fk3,fk4⟩:=nj (gr n) (r0.queue.take i) V8;have wti:=vQ r0.queue i hlt;simp only[au,Aaa,Aab,kL,eM,db,bN,p1,cR,t1,t2,t3];refine al.ref (by simp only[EO,t3,t4]) (hD _ r0.queue[i] (r0.queue.drop (i+1)++q) Hi b fi _ (fpr i) (by omega) (fk4 vi8 fun x hx=>hq100 x (Aak hx)) ki8.fold (En rq8 hlt) (hq100 _ (Aah hlt)) (by omega) oi pi p4 (fun c hc=>⟨(qi c (p5 c hc).1 (.inr ⟨i,Aaj _,hlt,hc⟩)).2,(nQS c (p5 c hc).1).2.1⟩)) ?_;rintro _ H9 ⟨rfl,f9,o9,l9,m9,r9⟩;replace o9:jr H9 b _ f9:=o9;replace l9:Hi.length≤H9.length:=l9;replace r9:∀c,¬(c∈fi∨c∈fpr i)→c≠b→c<Hi.length→H9[c]? = Hi[c]?:=r9;simp only[au,Aaa,Aab,kL,eM,db,bC];have ts:(r0.queue.take (i+1)).foldl (aT n) V8=aT n ((r0.queue.take i).foldl (aT n) V8) r0.queue[i]:=by
   rw[Aae hlt,Aal];rfl
  refine⟨(i+1,H9,f9,_),⟨hlt,by simp only;rw[ts];exact o9,by simp only;omega,fun c hc=>?_,fun c h1 h2 h3=>?_,fun c hc hj=>?_⟩,by simp only;omega,⟨by rw[wN (by have:=(vV r0.queue);omega)];simp[uV,gW,gM],rfl,rfl⟩⟩
  ·rcases m9 c hc with(g|g)|g
   ·exact mi c g
   ·exact .inl (FE c (nQS c (p5 c g).1).2.2.2)
   ·exact .inr (by omega)
  ·simp only;rw[r9 c (fun h=>by
    rcases h with g|g
    ·rcases mi c g with q|q
     ·exact h1 q
     ·omega
    ·exact h1 (FE c (nQS c (p5 c g).1).2.2.2)) h2 (by omega),ri c h1 h2 h3]
  ·simp only at hj ⊢;have hj':c=qb∨∃j,i≤j∧j<r0.queue.length∧c∈fpr j:=hj.imp id fun⟨j,a,b,c⟩=>⟨j,by omega,b,c⟩
   obtain⟨e1,e2⟩:=qi c hc hj';obtain⟨_,e3,e4,_⟩:=nQS c hc;have e5:c∉fpr i:=fun h=>by
    rcases hj with g|⟨j,g1,g2,g3⟩
    ·exact(p5 c h).2 g
    ·exact p7 j (by simpa using g2) (by omega) c h g3
   refine⟨by rw[r9 c (fun h=>h.elim e2 e5) e3 (by omega)];exact e1,fun h=>?_⟩;rcases m9 c h with(g|g)|g
   ·exact e2 g
   ·exact e5 g
   ·omega
 ·obtain⟨k3,hk3,ek3,ek3',eA3⟩:=cL ht;have hne:=(xN hrq h3t).symm;have hkk:k≠k3:=fun e=>hne (by rw[ek,ek3,e]);obtain⟨eT,heT⟩:∃eT,eT=aD v t:=⟨_,rfl⟩
  rw[←heT]at eA3;have fH:(hZ v s peer).entities=(oP (cm v s peer) peer s.result).entities.set k (kT r0 peer qq):=by rw[←ev7]
  have hk4:k3<(hZ v s peer).entities.length:=by rw[fH,List.length_set,sm.fH];exact hk3
  have eT3:(hZ v s peer).entities[k3]=eT:=by
   have h1:(hZ v s peer).entities[k3]? = some eT:=by
    rw[fH,List.getElem?_set_ne hkk,show(oP (cm v s peer) peer s.result).entities=v.entities from sm.fH,Aac hk3,eA3]
   rw[Aac hk4]at h1;exact Option.some.inj h1
  obtain⟨bT,gT,pre3,row3,post3,fR3,iR3,mR3,lR3,oR3,nR3,sR3,bmR3,bnR3,wr3⟩:=o7.ph hk4;rw[←ek3,it]at iR3;injection iR3 with iR3
  subst iR3;rw[eT3]at oR3;obtain⟨wS3,wQ3,wA3,fS3,fQ3,fA3,rfl,rfl,oS3,oQ3,oA3⟩:=c5 oR3;have c9:∀(e:List AV) (L:List (List AV)),(St.mk e L He).cells (.gp bT gT (pre3.length+9)) 1=some [.int .i64 eT.pos]:=fun e L=>mR3.cells e L 9 1 (by simp);have c10:∀(e:List AV) (L:List (List AV)),(St.mk e L He).cells (.gp bT gT (pre3.length+10)) 1=some [.int .i64 eT.count]:=fun e L=>mR3.cells e L 10 1 (by simp);obtain⟨Hf,sf,mf,lf,ff⟩:=mR3.put 10 [.int .i64 (IntKind.i64.wrap (eT.count+1))] (by simp) rfl;replace mf:pj Hf bT gT pre3 [.int .i64 eT.kind,.int .i64 eT.script,wS3,.int .i64 eT.state,.int .i64 eT.value.kind,.int .i64 eT.value.n,wQ3,wA3,.int .i64 eT.peer,.int .i64 eT.pos,.int .i64 (IntKind.i64.wrap (eT.count+1)),.int .i64 eT.sent] post3:=mf;have ownf:aM Hf _ (cP eT).cd (fS3++(fQ3++fA3)):=jo (e:=cP eT) (oS3.frame fun c hc=>ff c (fun e=>bnR3 (e▸(by simp[hc])))) (oQ3.frame fun c hc=>ff c (fun e=>bnR3 (e▸(by simp[hc])))) (oA3.frame fun c hc=>ff c (fun e=>bnR3 (e▸(by simp[hc]))));obtain⟨fE8,oX,me8⟩:=wr3 Hf _ (cP eT) (fS3++(fQ3++fA3)) [] (by omega) (fun c hc=>by cases hc) mf ownf nR3 (fun c hc=>.inl hc) (fun c _ _ _ h=>ff c h);have ev8:({ hZ v s peer with entities:=(hZ v s peer).entities.set k3 (cP eT) }:ar)=cT (hZ v s peer) t.toNat (cP eT):=by rw[cT,ek3']
  rw[ev8]at oX;have hfE8:∀c∈fE8,c∈fE7:=fun c hc=>by
   rcases me8 c hc with q|q
   ·exact q.1
   ·exact sR3 c q
  have sub8:∀c∈dh fE8 f2 fL2 f4,c∈dh fE7 f2 fL2 f4:=fun c hc=>by
   rcases aO.1 hc with g|g|g|g
   ·exact aO.2 (.inl (hfE8 c g))
   ·exact aO.2 (.inr (.inl g))
   ·exact aO.2 (.inr (.inr (.inl g)))
   ·exact aO.2 (.inr (.inr (.inr g)))
  have bTE:bT∈dh fE f2 fL f4:=aO.2 (.inl (hfE7 bT bmR3));have pc:∀(v:ar) (n:Nat) (e:aA) (p:Int) (m:ah),e8 (cT v n e) p m=cT (e8 v p m) n e:=fun v n e p m=>by
   unfold e8 cT;split<;>rfl
  have en:aD (fW v s peer pos (aD v t).pos) t=eT:=by
   rw[fW,(jX _ _ _).1.aD,aD,ek3',Aag,Aac hk4,eT3];rfl
  have yf:gN (fW v s peer pos (aD v t).pos) t=e8 (cT (hZ v s peer) t.toNat (cP eT)) peer (lN s pos eT.pos qq (aQ v peer s.args).2):=by
   unfold gN;rw[en,pc,fW,hqq,heT]
  have oweX:b9 Hf ww (.sl 2 ((aQ v peer s.args).2.map aJ.cd)) fw:=owe.frame fun c hc=>ff c (fun e=>by have:=(mw c hc).1;have:=o0.lt bT bTE;omega);have aviX:(cT (hZ v s peer) t.toNat (cP eT)).aq.length≤1048576∧(cT (hZ v s peer) t.toNat (cP eT)).out=v.out:=⟨by have:=avi.aq;show(hZ v s peer).aq.length≤_;omega,aout⟩
  have fwX:∀c∈fw,c∉dh fE8 f2 fL2 f4∧c≠b:=fun c hc=>⟨fun h=>(fw7 c hc).1 (sub8 c h),(fw7 c hc).2⟩
  have mFX:∀c∈dh fE8 f2 fL2 f4,c∈dh fE f2 fL f4∨h'.length≤c:=fun c hc=>mF7 c (sub8 c hc);have frX:∀c,c∉dh fE f2 fL f4→c<h'.length→Hf[c]? = h'[c]?:=fun c h1 h2=>by rw[ff c (fun e=>h1 (e▸bTE)),frH c h1 h2]
  simp only[au,Aaa,Aab,kL,eM,db,bN,g1,g2,g3,ag,ae,h1,h2,h3,c9,c10,sf];have omsg:aM Hf [.int .i64 1,.int .i64 pos,.int .i64 eT.pos,.int .i64 qq,.str s.name,ww,.int .i64 0,.int .i64 0,.int .i64 0,.int .i64 s.tag.vat,.int .i64 s.tag.entity,.int .i64 s.tag.seq] (lN s pos eT.pos qq (aQ v peer s.args).2).cd fw:=by
   have e':fw=fw++[]:=by simp
   rw[e'];exact .i (.i (.i (.i (.s (.o oweX (.i (.i (.i (.i (.i (.i .nil)))))))))))
  refine al.ref (by simp only[EO,h3,h4]) (Bq (cT (hZ v s peer) t.toNat (cP eT)) aviX.1 (by rw[aviX.2];omega) peer (lN s pos eT.pos qq (aQ v peer s.args).2) Hf oX.at omsg nw fwX) ?_;rintro _ H8 ⟨rfl,f8,o8,l8,m8,r8⟩;replace o8:jr H8 b (e8 (cT (hZ v s peer) t.toNat (cP eT)) peer (lN s pos eT.pos qq (aQ v peer s.args).2)) f8:=o8;replace l8:Hf.length≤H8.length:=l8;replace m8:∀c∈f8,(c∈dh fE8 f2 fL2 f4∨c∈fw)∨Hf.length≤c:=m8;replace r8:∀c,¬(c∈dh fE8 f2 fL2 f4∨c∈fw)→c≠b→c<Hf.length→H8[c]? = Hf[c]?:=r8;rw[←yf]at o8;obtain⟨V8,hV8⟩:∃V8,V8=gN (fW v s peer pos (aD v t).pos) t:=⟨_,rfl⟩
  obtain⟨k1,k2,k3',k4⟩:=AW (pos:=pos) (ans:=(aD v t).pos) yes;have ht8:bB t (fW v s peer pos (aD v t).pos).entities.length=true:=by rw[k1];exact ht
  have w8:=uk ht8 (cP (aD (fW v s peer pos (aD v t).pos) t));have u8:=ur ht8 (cP (aD (fW v s peer pos (aD v t).pos) t));have w8':oq (cP (aD (fW v s peer pos (aD v t).pos) t))=oq (aD (fW v s peer pos (aD v t).pos) t):=rfl;have u8':BX (cP (aD (fW v s peer pos (aD v t).pos) t))=BX (aD (fW v s peer pos (aD v t).pos) t):=rfl;rw[←hr]at k2;rw[show cT (fW v s peer pos (aD v t).pos) t.toNat (cP (aD (fW v s peer pos (aD v t).pos) t))=V8 from hV8.symm]at w8 u8;have vi8:VI V8:=by rw[hV8];exact pw (k4 hvi hs) _ _ (gZ (k4 hvi hs) t)
  have ki8:KI V8:=by unfold KI at hki ⊢;rw[hV8,gN,kt _ _ (cP _) rfl,vn];exact hki
  have rq8:RQ (r0.queue++q) V8:=by rw[hV8,hr];exact(hrq.call peer pos _).count ht8
  have fin8:r0.queue.foldl (aT n) V8=sB n v s peer pos (some t):=by rw[hV8,sB,if_pos yes,hr];exact I7 hrq ht h3t yes
  have bTQ:∀c∈fQ2,c≠bT:=fun c hc e=>nQ7 c hc (aO.2 (.inl (e▸bmR3)));have frQ:∀c∈fQ2,Hf[c]? = H2[c]?:=fun c hc=>by rw[ff c (bTQ c hc),fQe c hc]
  have subQ:∀c∈fQ2,c∉dh fE8 f2 fL2 f4:=fun c hc h=>nQ7 c hc (sub8 c h);rw[←hV8]at o8;have nQS:∀c∈fQ2,c∉f8∧c≠b∧c<h'.length∧c∈fE:=fun c hc=>by
   obtain⟨cl,cb,cE⟩:=nQW c hc;refine⟨fun h=>?_,cb,cl,cE⟩;rcases m8 c h with(g|g)|g
   ·exact subQ c hc g
   ·have:=(mw c g).1;omega
   ·omega
  have oq8:b9 H8 wQ2 (.sl 7 (r0.queue.map aK.cd)) fQ2:=oQ2.frame fun c hc=>by
   have hh:=nQS c hc;rw[r8 c (fun h=>h.elim (subQ c hc) fun g=>by have:=(mw c g).1;omega) hh.2.1 (by omega),frQ c hc]
  obtain⟨ptr,rws,fpr,qb,hrows⟩:=oq8.rows nQ2;obtain⟨F,hF⟩:∃F:Nat→Prop,F=fun c=>c∈dh fE f2 fL f4∨c∈fs:=⟨_,rfl⟩
  have FE:∀c∈fE,F c:=fun c hc=>by rw[hF];exact .inl (aO.2 (.inl hc))
  have f8F:∀c∈f8,F c∨h'.length≤c:=fun c hc=>by
   rw[hF];rcases m8 c hc with(g|g)|g
   ·exact(mFX c g).imp .inl id
   ·exact .inr (mw c g).1
   ·exact .inr (by omega)
  have r8F:∀c,¬F c→c≠b→c<h'.length→H8[c]? = h'[c]?:=fun c h1 h2 h3=>by
   rw[hF]at h1;have h1':c∉dh fE f2 fL f4:=fun h=>h1 (.inl h);rw[r8 c (fun h=>by
    rcases h with g|g
    ·rcases mFX c g with q|q
     ·exact h1' q
     ·omega
    ·have:=(mw c g).1;omega) h2 (by omega),frX c h1' h3]
  have l8':h'.length≤H8.length:=by omega
  simp only[au,Aaa,Aab,kL,eM,db,bC,z5,z6,z7,lQ2];refine fD aG mixed [] (fun x:Nat×AH×List Nat×List (List AV)=>x.1≤r0.queue.length∧jr x.2.1 b ((r0.queue.take x.1).foldl (aT n) V8) x.2.2.1∧h'.length≤x.2.1.length∧(∀c∈x.2.2.1,F c∨h'.length≤c)∧(∀c,¬F c→c≠b→c<h'.length→x.2.1[c]? = h'[c]?)∧(∀c∈fQ2,(c=qb∨∃j,x.1≤j∧j<r0.queue.length∧c∈fpr j)→x.2.1[c]? = H8[c]?∧c∉x.2.2.1)) (fun x=>r0.queue.length-x.1)
   (fun x=>uV (.gp b 0 0) wQ2 (.int .i64 (r0.queue.length:Nat)) (.int .i64 x.1) x.2.2.2 x.2.1) (0,H8,f8,_) ⟨Aao _,o8,l8',f8F,r8F,fun c hc _=>⟨rfl,(nQS c hc).1⟩⟩ ⟨by simp[uV,gW,gM],rfl,rfl⟩ ?_
  rintro⟨i,Hi,fi,Li⟩ ⟨hi,oi,li,mi,ri,qi⟩;simp only at hi oi li mi ri qi;simp only[au,Aaa,Aab,kL,eM,db,uV,bC];refine bz (fun hlt=>?_) (fun hge=>?_);rotate_left
  ·have hge:i=r0.queue.length:=by simp at hge;omega
   subst hge;rw[Aam]at oi;simp only[au,Aaa,Aab,kL,eM,db,bC];have fin0:e9 h' b (fun c=>c∈dh fE f2 fL f4∨c∈fs) Hi (r0.queue.foldl (aT n) V8):=⟨fi,oi,li,by rw[hF]at mi;exact mi,by rw[hF]at ri;exact ri⟩
   have fin:=conv _ _ fin0
   rw[fin8]at fin;first|exact⟨rfl,rfl,fin⟩|exact⟨rfl,fin⟩|trace_state
  have hlt:i<r0.queue.length:=by simpa using hlt
  obtain⟨p1,p2,p3,p4,p5,p6,p7⟩:=hrows i (by simpa using hlt);rw[Aan]at p3;obtain⟨wa',er,oa'⟩:=ku p3;have cR:∀(e:List AV) (L:List (List AV)),(St.mk e L Hi).cells (ptr i) 7=some (rws i):=fun e L=>p2 Hi e L (qi qb p6 (.inl rfl)).1;rw[er]at cR p3;have pi:aM Hi _ _ (fpr i):=p3.frame fun c hc=>(qi c (p5 c hc).1 (.inr ⟨i,Aaj _,hlt,hc⟩)).1;obtain⟨t1,t2,t3,t4⟩:=oa'.cell;obtain⟨fk1,fk2,fk3,fk4⟩:=nj (gr n) (r0.queue.take i) V8;have wti:=vQ r0.queue i hlt;simp only[au,Aaa,Aab,kL,eM,db,bN,p1,cR,t1,t2,t3];refine al.ref (by simp only[EO,t3,t4]) (hD _ r0.queue[i] (r0.queue.drop (i+1)++q) Hi b fi _ (fpr i) (by omega) (fk4 vi8 fun x hx=>hq100 x (Aak hx)) ki8.fold (En rq8 hlt) (hq100 _ (Aah hlt)) (by omega) oi pi p4 (fun c hc=>⟨(qi c (p5 c hc).1 (.inr ⟨i,Aaj _,hlt,hc⟩)).2,(nQS c (p5 c hc).1).2.1⟩)) ?_;rintro _ H9 ⟨rfl,f9,o9,l9,m9,r9⟩;replace o9:jr H9 b _ f9:=o9;replace l9:Hi.length≤H9.length:=l9;replace r9:∀c,¬(c∈fi∨c∈fpr i)→c≠b→c<Hi.length→H9[c]? = Hi[c]?:=r9;simp only[au,Aaa,Aab,kL,eM,db,bC];have ts:(r0.queue.take (i+1)).foldl (aT n) V8=aT n ((r0.queue.take i).foldl (aT n) V8) r0.queue[i]:=by
   rw[Aae hlt,Aal];rfl
  refine⟨(i+1,H9,f9,_),⟨hlt,by simp only;rw[ts];exact o9,by simp only;omega,fun c hc=>?_,fun c h1 h2 h3=>?_,fun c hc hj=>?_⟩,by simp only;omega,⟨by rw[wN (by have:=(vV r0.queue);omega)];simp[uV,gW,gM],rfl,rfl⟩⟩
  ·rcases m9 c hc with(g|g)|g
   ·exact mi c g
   ·exact .inl (FE c (nQS c (p5 c g).1).2.2.2)
   ·exact .inr (by omega)
  ·simp only;rw[r9 c (fun h=>by
    rcases h with g|g
    ·rcases mi c g with q|q
     ·exact h1 q
     ·omega
    ·exact h1 (FE c (nQS c (p5 c g).1).2.2.2)) h2 (by omega),ri c h1 h2 h3]
  ·simp only at hj ⊢;have hj':c=qb∨∃j,i≤j∧j<r0.queue.length∧c∈fpr j:=hj.imp id fun⟨j,a,b,c⟩=>⟨j,by omega,b,c⟩
   obtain⟨e1,e2⟩:=qi c hc hj';obtain⟨_,e3,e4,_⟩:=nQS c hc;have e5:c∉fpr i:=fun h=>by
    rcases hj with g|⟨j,g1,g2,g3⟩
    ·exact(p5 c h).2 g
    ·exact p7 j (by simpa using g2) (by omega) c h g3
   refine⟨by rw[r9 c (fun h=>h.elim e2 e5) e3 (by omega)];exact e1,fun h=>?_⟩;rcases m9 c h with(g|g)|g
   ·exact e2 g
   ·exact e5 g
   ·omega
end Go.Proofs.YtolciaflplefcaaGreat
