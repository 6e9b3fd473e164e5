import Derived.Test.YtolciaflplefcaaGreatR6G24
import Derived.Test.YtolciaflplefcaaGreatR6G26
import Derived.Test.YtolciaflplefcaaGreatR6G12
import Derived.Test.YtolciaflplefcaaGreatAmG9
set_option linter.unusedVariables false
set_option linter.unusedSimpArgs false
open Go.Proofs.Tryz renaming prog→pQ
open Nat renaming reduceAdd→Aaa,reduceBEq→Aab,le_refl→Aal,zero_le→Aao
open List renaming nodup_append→Aac,mem_append→Aad,getElem_mem→Aae,length_map→Aaf,take_succ_eq_append_getElem→Aag,map_append→Aah,mem_singleton→Aai,length_take→Aaj,take_length→Aak,nodup_nil→Aam,append_nil→Aan
namespace Go.Proofs.YtolciaflplefcaaGreat
open Go.AM
variable {Γ:bG}
theorem Jg{v:ar}{peer:Int}{k:Nat}{hk:k<v.aq.length}(ef:v.aq.find? (fun x:aF=>x.peer == peer)=some v.aq[k])(m:ah):px v peer m=uc v.aq[k] m:=by
 unfold px;rw[ef]
theorem M9{H:AH}{b g:Nat}{pre row post:List AV}{ds:List CD}{f:List Nat}{ys:List AV}(m:pj H b g pre row post)(o:aM H row ds f)(h:ds.map (CD.av true)=ys):ou H (.gp b g pre.length) (.ip true ys):=m.snap (aM.fk h o)
set_option maxHeartbeats 1000000 in
theorem Ul(v:ar)(x:aA)(H:AH){b:Nat}{wE w2 wL w4:AV}{fE f2 fL f4:List Nat}(o:VO H b v wE w2 wL w4 fE f2 fL f4){am:List AV}{fm:List Nat}(om:aM H am x.cd fm)(nm:fm.Nodup)(dm:∀c∈fm,c∉dh fE f2 fL f4∧c≠b):
 T pQ Γ Fn.kaJ [.gp b 0 0,.agg am] H fun r H'=>r=.int .i64 (k8 v)∧∃wE' fE',VO H' b (dv v x) wE' w2 wL w4 fE' f2 fL f4∧H.length≤H'.length∧(∀c∈fE',c∈fE∨c∈fm∨H.length≤c)∧∀c,c∉fE→c∉fm→c≠b→c<H.length→H'[c]? = H[c]?:=by
 have hb:=o.hb;have bf:=o.bf;have blt:=o.blt;have vlt:=o.lt;have cb:=VO.Cp hb;obtain⟨a1,a2,a3,a4⟩:=o.oE.cell;obtain⟨b1,b2,b3,b4⟩:=o.o2.cell;obtain⟨c1,c2,c3,c4⟩:=o.oL.cell;obtain⟨d1,d2,d3,d4⟩:=o.o4.cell;obtain⟨_,lE⟩:=dc o.oE;rw[Aaf]at lE;have oo:=om;simp only[aA.cd,jv,jy,j6,oF,nF]at oo;obtain⟨_,_,_,_,rfl,_,⟨rfl,rfl⟩,⟨_,_,_,_,rfl,_,⟨rfl,rfl⟩,⟨az2,_,_,_,rfl,_,uz2,⟨_,_,_,_,rfl,_,⟨rfl,rfl⟩,⟨_,_,_,_,rfl,_,⟨rfl,rfl⟩,⟨_,_,_,_,rfl,_,⟨rfl,rfl⟩,⟨az6,_,_,_,rfl,_,uz6,⟨az7,_,_,_,rfl,_,uz7,⟨_,_,_,_,rfl,_,⟨rfl,rfl⟩,⟨_,_,_,_,rfl,_,⟨rfl,rfl⟩,⟨_,_,_,_,rfl,_,⟨rfl,rfl⟩,⟨_,_,_,_,rfl,_,⟨rfl,rfl⟩,⟨rfl,_⟩⟩⟩⟩⟩⟩⟩⟩⟩⟩⟩⟩⟩:=oo;obtain⟨cz2a,cz2b,cz2c,cz2d⟩:=uz2.cell;obtain⟨cz6a,cz6b,cz6c,cz6d⟩:=uz6.cell;obtain⟨cz7a,cz7b,cz7c,cz7d⟩:=uz7.cell;refine QP (aC aG mixed [] _ _ _ ?_);unfold Mk;simp only[au,Aaa,Aab,Bi,tY,oJ,cK,cb];by_cases hf:200≤v.entities.length
 ·simp only[au,Aaa,Aab,Bi,tY,oJ,cb,lE,show decide ((200:Int)≤(v.entities.length:Int))=true from aR (by omega),show decide ((v.entities.length:Int)≥200)=true from aR (by omega)];have e:dv v x=v:=by rw[dv,if_pos hf]
  have e2:k8 v = -1:=by rw[k8,if_pos hf]
  rw[e,e2];first|exact⟨rfl,rfl,_,_,o,Aal _,fun c hc=>.inl hc,fun _ _ _ _ _=>trivial⟩|exact⟨rfl,_,_,o,Aal _,fun c hc=>.inl hc,fun _ _ _ _ _=>trivial⟩|exact⟨rfl,rfl,_,_,o,Aal _,fun c hc=>.inl hc,fun _ _ _ _ _=>rfl⟩
 have nd2:(fE++fm).Nodup:=Aac.2 ⟨o.nE,nm,fun x hx y hy e=>(dm y hy).1 (aO.2 (.inl (e▸hx)))⟩;obtain⟨v',H1,fE',ea,o',nd',hf',hl',hm'⟩:=df (bytes:=144) o.oE nd2 (by omega) rfl om (by simp only[Aaf,aU];omega);obtain⟨j1,j2,j3,j4⟩:=o'.cell;obtain⟨_,lE'⟩:=dc o';simp only[List.length_append,Aaf,List.length_cons,List.length_nil,Nat.zero_add]at lE';have hb1:cF H1 b=some (0,[.int .i64 v.id,wE,w2,wL,w4]):=by rw[bc (hf' b o.bE blt)];exact hb
 obtain⟨H2,s2,hb2,l2,r2⟩:=xB hb1 (i:=1) (w:=v') (by simp) j3;have cb2:∀(e:List AV) (L:List (List AV)) (off n:Nat),(St.mk e L H2).cells (.gp b 0 off) n=sub [.int .i64 v.id,v',w2,wL,w4] off n:=fun e L off n=>b8 hb2;simp only[au,Aaa,Aab,Bi,tY,oJ,EA,cK,cb,lE,show decide ((200:Int)≤(v.entities.length:Int))=false from aW (by omega),show decide ((v.entities.length:Int)≥200)=false from aW (by omega),cz2a,cz2b,cz2c,cz6a,cz6b,cz6c,cz7a,cz7b,cz7c,ea,j1,j2,j3,s2,cb2,lE'];have e:dv v x={ v with entities:=v.entities++[x] }:=by rw[dv,if_neg hf]
 have e2:k8 v=IntKind.i64.wrap (((v.entities.length+1:Nat):Int)-1):=by rw[k8,if_neg hf,jO (by omega) (by omega)];omega
 rw[e,e2];have o2:=o.JZ (G:=fm) (es':=v.entities++[x]) (fE':=fE') hb2 ((by simpa using o':b9 H1 v' (.sl 12 ((v.entities++[x]).map aA.cd)) fE').frame fun c hc=>r2 c (fun e=>by
  subst e;rcases hm' c hc with g|g|g
  ·exact o.bE g
  ·exact(dm c g).2 rfl
  ·omega)) nd' hm' dm (by omega) (fun c h1 h2 h3 h4=>by rw[r2 c h3,hf' c h1 h4])
 have fin:∃wE' fE',VO H2 b { v with entities:=v.entities++[x] } wE' w2 wL w4 fE' f2 fL f4∧H.length≤H2.length∧(∀c∈fE',c∈fE∨c∈fm∨H.length≤c)∧∀c,c∉fE→c∉fm→c≠b→c<H.length→H2[c]? = H[c]?:=⟨_,_,o2,by omega,hm',fun c h1 h2 h3 h4=>by rw[r2 c h3,hf' c h1 h4]⟩
 first|exact⟨rfl,rfl,fin⟩|exact⟨rfl,fin⟩|exact fin
set_option maxHeartbeats 8000000 in
set_option maxRecDepth 100000 in
theorem WO{K:Nat}(v:ar)(g:GI K v)(hrq:RQ [] v)(hki:KI v)(hnl:∀l∈v.aq,NL l)(hK:K+10≤100)(peer:Int)(β:Bool)(m:ah)(hm:m.args.length≤4)(hn:m.name.size≤100)(H:AH){b:Nat}{f:List Nat}(a:jr H b v f):
 T pQ Γ Fn.kaZ [.gp b 0 0,.int .i64 peer,.agg (m.c β)] H fun r H'=>r=.tup []∧e9 H b (fun c=>c∈f) H' (km v peer m):=by
 obtain⟨R,hR⟩:∃R,R=km v peer m:=⟨_,rfl⟩
 rw[←hR];unfold km at hR;have hvi:=g.vi;have gw:=g.w;have hvok:v.ok 1048576:=hvi.Gt.mono (by omega);obtain⟨wE,w2,wL,w4,fE,f2,fL,f4,rfl,o⟩:=a;have hE:v.entities.length≤1048576:=by have:=hvi.fH;omega
 have hL:v.aq.length≤1048576:=by have:=hvi.aq;omega
 have hb:=o.hb;have blt:=o.blt;have cb:=VO.Cp hb;obtain⟨a1,a2,a3,a4⟩:=o.oE.cell;obtain⟨b1,b2,b3,b4⟩:=o.o2.cell;obtain⟨c1,c2,c3,c4⟩:=o.oL.cell;obtain⟨d1,d2,d3,d4⟩:=o.o4.cell;obtain⟨_,lE⟩:=dc o.oE;rw[Aaf]at lE;have stop:R=v→e9 H b (fun c=>c∈dh fE f2 fL f4) H R:=fun e=>by rw[e];exact e9.refl o.at fun c hc=>hc
 refine WA (aC aG mixed [] _ _ _ ?_);unfold Qk;simp only[au,Aaa,Aab,pz,iQ,iW,fM,fO,bC,ah.c,ag,ae];refine al.ref (by simp only[EO]) (Gf hL peer o) ?_;rintro r h' ⟨hlk,e⟩;replace e:h'=H:=e;subst e;cases hu:rO v.aq peer
 ·rcases hlk with⟨g,_⟩|⟨_,rfl⟩
  ·rw[hu]at g;cases g
  simp only[au,Aaa,Aab,pz,iQ,iW,fM,fO,bC,ah.c,ag,ae];have sp:=stop (by rw[hR,if_neg (fun h=>by rw[hu]at h;cases h.2.2.1)]);first|exact⟨rfl,sp⟩|exact⟨rfl,rfl,sp⟩|exact sp
 rcases hlk with⟨_,k,hk,ek,ik⟩|⟨g,_⟩
 rotate_left
 ·rw[hu]at g;cases g
 obtain⟨bL,gL,pre,row,post,f0,iL,mL,lR,oR,nf0,sf0,bmL,bnL,wrL⟩:=o.rU hk;rw[iL]at ik;injection ik with ik
 subst ik;have ef:v.aq.find? (fun x:aF=>x.peer == peer)=some v.aq[k]:=by
  obtain⟨k',hk',ek',ef'⟩:=pM hu;rw[ek]at ek';have:k=k':=by omega
  subst this;exact ef'
 have hlok:=hvi.Cu.mono (show wV v+100≤1048576 by omega) _ (Aae hk);have snL:ou h' (.gp bL gL pre.length) (.ip true (v.aq[k].c true)):=M9 mL oR (aF.bO true _);obtain⟨wX,wQ,wA,fX,fQ,fA,rfl,rfl,oX,oQ,oA⟩:=ck oR;obtain⟨x1,x2,x3,x4⟩:=oX.cell;obtain⟨y1,y2,y3,y4⟩:=oQ.cell;obtain⟨z1,z2,z3,z4⟩:=oA.cell;have r6:∀(e:List AV) (L:List (List AV)),(St.mk e L h').cells (.gp bL gL (pre.length+6)) 1=some [wA]:=fun e L=>mL.cells e L 6 1 (by simp);by_cases k1:(decide (m.kind=1) && pX m)=true;rotate_left
 ·simp only[au,Aaa,Aab,pz,iQ,iW,fM,fO,bC,ah.c,ag,ae];refine al.val (by simp only[EO]) (Qe β m (by omega) (by omega) _) ?_;rw[Bool.eq_false_iff.2 k1];simp only[au,Aaa,Aab,pz,iQ,iW,fM,fO,bC,ah.c,ag,ae];have sp:=stop (by rw[hR,if_neg (fun h=>k1 (by rw[aR h.1,h.2.1];rfl))]);first|exact⟨rfl,sp⟩|exact⟨rfl,rfl,sp⟩|exact sp
 simp only[au,Aaa,Aab,pz,iQ,iW,fM,fO,bC,ah.c,ag,ae];refine al.val (by simp only[EO]) (Qe β m (by omega) (by omega) _) ?_;rw[k1];simp only[Bool.and_eq_true,decide_eq_true_eq]at k1;simp only[au,Aaa,Aab,pz,iQ,iW,fM,fO,bC,ah.c,ag,ae,r6,z1,z2,z3];refine al.fk (by simp only[EO,z3,z4]) (aI (b9.fk (aB.bO true) oA) (aI (.same _) aZ)) (fun h=>Mn true v.aq[k].answers hlok.2.2 m.question h) (.bool _) ?_;cases hh:v.aq[k].answers.any fun q=>q.id == m.question;rotate_left
 ·simp only[au,Aaa,Aab,pz,iQ,iW,fM,fO,bC,ah.c,ag,ae];have sp:=stop (by rw[hR,if_neg (fun h=>by rw[ib hk ek,hh]at h;cases h.2.2.2)]);first|exact⟨rfl,sp⟩|exact⟨rfl,rfl,sp⟩|exact sp
 rw[if_pos ⟨k1.1,k1.2,hu,by rw[ib hk ek];exact hh⟩,ib hk ek]at hR;simp only[au,Aaa,Aab,pz,iQ,iW,fM,fO,bC,ah.c,ag,ae];refine al.fk (by simp only[EO]) (aI snL (aI (.same _) aZ)) (fun h=>kbi_T true β v.aq[k] hlok (hnl _ (Aae hk)) m h (Ptr.ip h true _)) (.bool _) ?_;have pushed:R=e8 v peer (od m.question ⟨3,0⟩)→T pQ Γ Fn.U5 [.gp b 0 0,.int .i64 peer,.agg [.int .i64 2,.int .i64 0,.int .i64 0,.int .i64 m.question,.str ⟨#[]⟩,.nils,.int .i64 3,.int .i64 0,.int .i64 0,.int .i64 0,.int .i64 0,.int .i64 0]] h' fun r H'=>r=.tup []∧e9 h' b (fun c=>c∈dh fE f2 fL f4) H' R:=fun eR=>by
  refine(Bq v hL (by rw[yr]at gw;omega) peer (od m.question ⟨3,0⟩) h' o.at (.i (.i (.i (.i (.s (.o (.nil _) (.i (.i (.i (.i (.i (.i .nil)))))))))))) Aam (fun c hc=>by cases hc)).mono ?_;rintro r H' ⟨rfl,u⟩;rw[eR];exact⟨rfl,u.mono fun c hc=>hc.elim id fun h=>by cases h⟩
 cases st:pK v.aq[k] m;rotate_left
 ·simp only[au,Aaa,Aab,pz,iQ,iW,fM,fO,bC,ah.c,ag,ae,ji,sO,sI,sK];refine al.ref (by simp only[EO]) (pushed (by rw[hR,if_pos (.inl st)])) ?_;rintro _ H2 ⟨rfl,fin⟩;simp only[au,Aaa,Aab,pz,iQ,iW,fM,fO,bC,ah.c,ag,ae];first|exact⟨rfl,fin⟩|exact⟨rfl,rfl,fin⟩|exact fin
 by_cases hfull:200≤v.entities.length
 ·simp only[au,Aaa,Aab,pz,iQ,iW,fM,fO,bC,ah.c,ag,ae,cb,a1,a2,a3,lE,show decide ((v.entities.length:Int)≥200)=true from aR (by omega),ji,sO,sI,sK];refine al.ref (by simp only[EO]) (pushed (by rw[hR,if_pos (.inr hfull)])) ?_;rintro _ H2 ⟨rfl,fin⟩;simp only[au,Aaa,Aab,pz,iQ,iW,fM,fO,bC,ah.c,ag,ae];first|exact⟨rfl,fin⟩|exact⟨rfl,rfl,fin⟩|exact fin
 rw[if_neg (fun h=>by rcases h with h|h;rw[st]at h;cases h;exact hfull h)]at hR;simp only[au,Aaa,Aab,pz,iQ,iW,fM,fO,bC,ah.c,ag,ae,cb,a1,a2,a3,lE,show decide ((v.entities.length:Int)≥200)=false from aW (by omega)];refine al.fk (by simp only[EO]) (aI snL (aI (.same _) aZ)) (fun h=>WB true β v.aq[k] hlok m h (Ptr.ip h true _)) (.int _ _) ?_;rw[←Jg ef m];simp only[au,Aaa,Aab,pz,iQ,iW,fM,fO,bC,ah.c,ag,ae,cb,a1,a2,a3,lE];refine al.val (by simp only[EO]) (ZQ _) ?_;simp only[au,Aaa,Aab,pz,iQ,iW,fM,fO,bN,uz,ah.c,ag,ae,cb,a1,a2,a3,lE];obtain⟨HA,hHA⟩:∃HA:AH,HA=h'++[some (0,[.int .i64 peer,.int .i64 m.question])]:=⟨_,rfl⟩
 simp only[←hHA];have lHA:HA.length=h'.length+1:=by rw[hHA];simp
 have frA:∀c,c<h'.length→HA[c]? = h'[c]?:=fun c hc=>by rw[hHA];exact List.getElem?_append_left hc
 have oN:VO HA b v wE w2 wL w4 fE f2 fL f4:=o.frame fun c hc=>frA c (by rcases hc with g|g;exact o.lt c g;rw[g];exact blt);have oAsk:b9 HA (.gs h'.length 0 0 1 1 2 true) (.sl 2 ((ny peer m.question).askers.map cj.cd)) [h'.length]:=by rw[hHA];exact xQ h' rfl (.i (.i .nil))
 clear hHA;refine al.ref (by simp only[EO]) (Ul v (ny peer m.question) HA oN (fm:=[h'.length]) (jo (e:=ny peer m.question) (.nil _) (.nil _) oAsk) (by simp) (fun c hc=>by
  rw[Aai.1 hc];exact⟨fun q=>by have:=o.lt _ q;omega,by omega⟩)) ?_
 rintro _ H2 ⟨rfl,uE,gE,oM,l2,m2,r2⟩;replace l2:HA.length≤H2.length:=l2;replace m2:∀c∈gE,c∈fE∨c∈[h'.length]∨HA.length≤c:=m2;replace r2:∀c,c∉fE→c∉[h'.length]→c≠b→c<HA.length→H2[c]? = HA[c]?:=r2;have e1:dv v (ny peer m.question)={ v with entities:=v.entities++[ny peer m.question] }:=by rw[dv,if_neg hfull]
 have e2:k8 v=(v.entities.length:Int):=by rw[k8,if_neg hfull]
 obtain⟨ck1,ck2,ck3,ck4⟩:=G2 g hK (by omega) peer m.question (v.entities.length:Int) hk;have rq1:=Fi g hrq peer m (by omega);have kiW:=xM (hki.add (x:=ny peer m.question) (.inr (.inl rfl))) k (vI v.aq[k] m.question (v.entities.length:Int));obtain⟨v1,hv1⟩:∃v1,v1=dv v (ny peer m.question):=⟨_,rfl⟩
 have lk1:v1.aq=v.aq:=by rw[hv1,e1]
 rw[←hv1]at oM ck1 ck2 ck3 ck4 kiW;rw[e2];have hk1:k<v1.aq.length:=by rw[lk1];exact hk
 have hbM:=oM.hb;have cbM:∀(e:List AV) (L:List (List AV)) (off n:Nat),(St.mk e L H2).cells (.gp b 0 off) n=sub [.int .i64 v1.id,uE,w2,wL,w4] off n:=fun e L off n=>b8 hbM;obtain⟨bP,gP,preP,rowP,postP,fP0,iP,mP,lP,oRP,nfP,sfP,bmP,bnP,wrP⟩:=oM.rU hk1;rw[iL]at iP;injection iP with iP
 injection iP with q1 q2 q3
 subst q1 q2;obtain⟨wX',wQ',wA',fX',fQ',fA',rfl,rfl,oX',oQ',oA'⟩:=ck oRP;obtain⟨z1',z2',z3',z4'⟩:=oA'.cell;have r6':∀(e:List AV) (L:List (List AV)),(St.mk e L H2).cells (.gp bL gL (pre.length+6)) 1=some [wA']:=fun e L=>by rw[q3];exact mP.cells e L 6 1 (by simp)
 have nA':fA'.Nodup:=(Aac.1 (Aac.1 nfP).2.1).2.1;have hans:v1.aq[k].answers.length≤100:=by
  have:=g.vi.ans v.aq[k] (Aae hk);simpa only[lk1]using this
 obtain⟨vA,H3,fA3,ea,oA3,nA3,fr3,l3,m3⟩:=df (bytes:=16) oA' (ys:=[.int .i64 m.question,.int .i64 (v.entities.length:Int)]) (row:=[.i .i64 m.question,.i .i64 (v.entities.length:Int)]) (f2:=[]) (by simpa using nA') (by omega) rfl (.i (.i .nil)) (by simp only[Aaf,aU];omega);obtain⟨zz1,zz2,zz3,zz4⟩:=oA3.cell;have bf:=o.bf;have bltM:=oM.blt;have bfM:=oM.bf;have sP:∀c∈fX'++(fQ'++fA'),c∈dh gE f2 fL f4:=fun c hc=>aO.2 (.inr (.inr (.inl (sfP c hc))));have bA':b∉fA':=fun h=>bfM (sP b (by simp[h]));have bLlt:bL<H2.length:=oM.lt _ (aO.2 (.inr (.inr (.inl bmP))));have bLA:bL∉fA':=fun h=>bnP (by simp[h]);have mP3:pj H3 bL gL preP [.int .i64 v1.aq[k].peer,.bool v1.aq[k].up,wX',.int .i64 v1.aq[k].next,wQ',.int .i64 v1.aq[k].asked,wA'] postP:=⟨by rw[bc (fr3 bL bLA bLlt)];exact mP.eq⟩
 obtain⟨H4,s4,m4,l4,r4⟩:=mP3.put 6 [vA] (by simp) (by simp only[je,jg,zz3];rfl);rw[←q3]at s4;obtain⟨nX1,nQA,dX1⟩:=Aac.1 nfP;obtain⟨nQ1,_,dQ1⟩:=Aac.1 nQA;have ltP:=oRP.lt;have hlk:v1.aq[k]=v.aq[k]:=by simp only[lk1]
 have m3':∀c∈fA3,c∈fA'∨H2.length≤c:=fun c hc=>by
  rcases m3 c hc with g|g|g
  ·exact .inl g
  ·cases g
  ·exact .inr g
 have bL3:bL∉fA3:=fun h=>(m3' bL h).elim bLA fun q=>by omega
 have f34:∀c,c∉fA'→c<H2.length→c≠bL→H4[c]? = H2[c]?:=fun c h1 h2 h3=>by rw[r4 c h3,fr3 c h1 h2]
 replace m4:pj H4 bL gL preP [.int .i64 v1.aq[k].peer,.bool v1.aq[k].up,wX',.int .i64 v1.aq[k].next,wQ',.int .i64 v1.aq[k].asked,vA] postP:=m4;obtain⟨fL4,o4,me4⟩:=wrP H4 _ (vI v1.aq[k] m.question (v.entities.length:Int)) (fX'++(fQ'++fA3)) [] (by omega) (fun c hc=>by cases hc) m4
  (gB (l:=vI v1.aq[k] m.question (v.entities.length:Int)) (oX'.frame fun c hc=>f34 c (fun g=>dX1 c hc c (by simp[g]) rfl) (ltP c (by simp[hc])) (fun e=>bnP (e▸(by simp[hc])))) (oQ'.frame fun c hc=>f34 c (fun g=>dQ1 c hc c g rfl) (ltP c (by simp[hc])) (fun e=>bnP (e▸(by simp[hc])))) ((show b9 H3 vA (.sl 2 ((v1.aq[k].answers++[(⟨m.question,(v.entities.length:Int)⟩:aB)]).map aB.cd)) fA3 by rw[Aah];exact oA3).frame fun c hc=>r4 c (fun e=>bL3 (e▸hc))))
  (Aac.2 ⟨nX1,Aac.2 ⟨nQ1,nA3,fun x hx y hy e=>by
   subst e;rcases m3' x hy with g|g
   ·exact dQ1 x hx x g rfl
   ·have:=ltP x (by simp[hx]);omega⟩,fun x hx y hy e=>by
   subst e;rcases Aad.1 hy with q|q
   ·exact dX1 x hx x (by simp[q]) rfl
   ·rcases m3' x q with g|g
    ·exact dX1 x hx x (by simp[g]) rfl
    ·have:=ltP x (by simp[hx]);omega⟩)
  (fun c hc=>by
   simp only[Aad]at hc ⊢;rcases hc with g|g|g
   ·exact .inl (.inl g)
   ·exact .inl (.inr (.inl g))
   ·rcases m3' c g with q|q
    ·exact .inl (.inr (.inr q))
    ·exact .inr (.inr q))
  (fun c h1 h2 _ h3=>f34 c (fun g=>h2 (by simp[g])) h1 h3)
 have a4k:jr H4 b (dU v1 k (vI v.aq[k] m.question (v.entities.length:Int))) (dh gE f2 fL4 f4):=by rw[←hlk];exact o4.at
 obtain⟨v2,hv2⟩:∃v2,v2=dU v1 k (vI v.aq[k] m.question (v.entities.length:Int)):=⟨_,rfl⟩
 have eW:nz v peer m=v2:=by rw[hv2,hv1,nz,ib hk ek,sg,ek];rfl
 rw[vy,eW]at hR;rw[vy,eW]at rq1;rw[←hv2]at a4k ck1 ck2 ck3 ck4 kiW;clear o4;simp only[au,Aaa,Aab,pz,iQ,iW,fM,fO,bN,ah.c,ag,ae,cbM,r6',z1',z2',z3',ea,zz1,zz2,zz3,s4];refine al.ref (by simp only[EO]) (UH v2 ck1 (by omega) peer β m.args (by omega) H4 a4k) ?_;rintro w H5 ⟨v3,xs,fx,f5,eX,F3,ox,nx,lx,a5,l5,m5,mx,r5⟩;obtain⟨kp3,_,_⟩:=wh peer m.args v2;rw[←eX]at hR rq1 kp3;simp only at hR rq1 kp3;replace ox:b9 H5 w _ fx:=ox;replace a5:jr H5 b v3 f5:=a5;replace l5:H4.length≤H5.length:=l5;replace r5:∀c,c∉dh gE f2 fL4 f4→c≠b→c<H4.length→H5[c]? = H4[c]?:=r5;obtain⟨w1,w2',w3,w4'⟩:=ox.cell;simp only[au,Aaa,Aab,pz,iQ,iW,fM,fO,bN,ah.c,ag,ae,w1,w2',w3,ji,sO,sI,sK];have vi3:=F3.vi ck1;have os:=tJ (H:=H5) (s:=⟨px v peer m,m.name,xs,(v.entities.length:Int),m.tag⟩) ox;refine al.ref (by simp only[EO,w3,w4']) (Kh (mJ v3+1) v3 ⟨px v peer m,m.name,xs,(v.entities.length:Int),m.tag⟩ [] H5 b f5 _ fx (Nat.lt_succ_self _) vi3 (kp3.ki kiW) rq1 ⟨hn,by show xs.length≤100;omega⟩ (by show wV v3+2+xs.length≤500000;rw[F3.w];omega) a5 os nx (fun c hc=>⟨(mx c hc).2,fun e=>by have:=(mx c hc).1;omega⟩)) ?_;rintro _ H6 ⟨rfl,f6,a6,l6,m6,r6e⟩;replace a6:jr H6 b _ f6:=a6;replace l6:H5.length≤H6.length:=l6;replace m6:∀c∈f6,(c∈f5∨c∈fx)∨H5.length≤c:=m6;replace r6e:∀c,¬(c∈f5∨c∈fx)→c≠b→c<H5.length→H6[c]? = H5[c]?:=r6e;have t2:∀c∈dh gE f2 fL f4,c∈dh fE f2 fL f4∨h'.length≤c:=fun c hc=>by
  rcases aO.1 hc with q|q
  ·rcases m2 c q with q|q|q
   ·exact .inl (aO.2 (.inl q))
   ·rw[Aai.1 q];exact .inr (Aal _)
   ·exact .inr (by omega)
  ·exact .inl (aO.2 (.inr q))
 have t4:∀c∈dh gE f2 fL4 f4,c∈dh fE f2 fL f4∨h'.length≤c:=fun c hc=>by
  rcases aO.1 hc with q|q|q|q
  ·exact t2 c (aO.2 (.inl q))
  ·exact t2 c (aO.2 (.inr (.inl q)))
  ·rcases me4 c q with⟨q,_⟩|q
   ·exact t2 c (aO.2 (.inr (.inr (.inl q))))
   ·simp only[Aad]at q;rcases q with q|q|q
    ·exact t2 c (sP c (by simp[q]))
    ·exact t2 c (sP c (by simp[q]))
    ·rcases m3' c q with s|s
     ·exact t2 c (sP c (by simp[s]))
     ·exact .inr (by omega)
  ·exact t2 c (aO.2 (.inr (.inr (.inr q))))
 have t5:∀c∈f5,c∈dh fE f2 fL f4∨h'.length≤c:=fun c hc=>by
  rcases m5 c hc with q|q
  ·exact t4 c q
  ·exact .inr (by omega)
 have tx:∀c∈fx,c∈dh fE f2 fL f4∨h'.length≤c:=fun c hc=>.inr (by have:=(mx c hc).1;omega);have no:∀{l:List Nat} {c:Nat},(∀c∈l,c∈dh fE f2 fL f4∨h'.length≤c)→c∉dh fE f2 fL f4→c<h'.length→c∉l:=fun h h1 h2 g=>(h _ g).elim h1 fun q=>by omega
 have fin:e9 h' b (fun c=>c∈dh fE f2 fL f4) H6 R:=by
  rw[hR];refine⟨f6,a6,by omega,fun c hc=>?_,fun c h1 h2 h3=>?_⟩
  ·rcases m6 c hc with(q|q)|q
   ·exact t5 c q
   ·exact tx c q
   ·exact .inr (by omega)
  ·rw[r6e c (fun h=>h.elim (no t5 h1 h3) (no tx h1 h3)) h2 (by omega),r5 c (no t4 h1 h3) h2 (by omega),f34 c (fun g=>no t2 h1 h3 (sP c (by simp[g]))) (by omega) (fun e=>no t2 h1 h3 (e▸aO.2 (.inr (.inr (.inl bmP))))),r2 c (fun g=>h1 (aO.2 (.inl g))) (fun q=>by rw[Aai.1 q]at h3;omega) h2 (by omega),frA c h3]
 simp only[au,Aaa,Aab,pz,iQ,iW,fM,fO,bC,ah.c,ag,ae];first|exact⟨rfl,fin⟩|exact⟨rfl,rfl,fin⟩|exact fin
set_option maxHeartbeats 4000000 in
set_option maxRecDepth 100000 in
theorem Sb(v:ar)(hvi:VI v)(hw:wV v≤400000)(peer q st:Int)(H:AH){b:Nat}{wE w2 wL w4:AV}{fE f2 fL f4:List Nat}(o:VO H b v wE w2 wL w4 fE f2 fL f4):
 T pQ Γ Fn.kaK [.gp b 0 0,.int .i64 peer,.int .i64 q,.int .i64 st] H fun r H'=>((rO v.aq peer=true∧¬fN v peer q st<0∧∃e,r=.tup [e,.int .i64 (fN v peer q st)]∧fh 12 wE (fN v peer q st)=some e)∨(¬(rO v.aq peer=true∧¬fN v peer q st<0)∧r=.tup [.nilp,.int .i64 0]))∧H'=H:=by
 have hE:v.entities.length≤1048576:=by have:=hvi.fH;omega
 have hL:v.aq.length≤1048576:=by have:=hvi.aq;omega
 refine Zw (aC aG mixed [] _ _ _ ?_);unfold Pe;simp only[au,Aaa,Aab,uN,bC];refine al.ref (by simp only[EO]) (Gf hL peer o) ?_;rintro r h' ⟨hlk,e⟩;replace e:h'=H:=e;subst e;cases hu:rO v.aq peer
 ·rcases hlk with⟨g,_⟩|⟨_,rfl⟩
  ·rw[hu]at g;cases g
  simp only[au,Aaa,Aab,uN,bC];have fin:((false=true∧¬fN v peer q st<0∧∃e,(AV.tup [.nilp,.int .i64 0])=.tup [e,.int .i64 (fN v peer q st)]∧fh 12 wE (fN v peer q st)=some e)∨(¬(false=true∧¬fN v peer q st<0)∧(AV.tup [.nilp,.int .i64 0])=.tup [.nilp,.int .i64 0])):=.inr ⟨fun h=>(by cases h.1),rfl⟩;first|exact⟨rfl,rfl⟩|exact⟨⟨rfl,rfl⟩,fin⟩|exact⟨⟨rfl,rfl⟩,fin,rfl⟩|exact⟨rfl,fin,rfl⟩|exact⟨rfl,fin⟩|exact⟨fin,rfl⟩|exact fin|(refine⟨⟨rfl,rfl⟩,?_⟩;simpa using fin)|(refine⟨rfl,?_⟩;first|(simp;done)|simpa using fin)
 rcases hlk with⟨_,k,hk,ek,ik⟩|⟨g,_⟩
 rotate_left
 ·rw[hu]at g;cases g
 obtain⟨bL,gL,pre,row,post,f0,iL,mL,lR,oR,nf0,sf0,bmL,bnL,wrL⟩:=o.rU hk;rw[iL]at ik;injection ik with ik
 subst ik;have hlok:=hvi.Cu.mono (show wV v+100≤1048576 by omega) _ (Aae hk);obtain⟨wX,wQ,wA,fX,fQ,fA,rfl,rfl,oX,oQ,oA⟩:=ck oR;obtain⟨y1,y2,y3,y4⟩:=oQ.cell;have r4:∀(e:List AV) (L:List (List AV)),(St.mk e L h').cells (.gp bL gL (pre.length+4)) 1=some [wQ]:=fun e L=>mL.cells e L 4 1 (by simp);obtain⟨P,hP⟩:∃P,P=fN v peer q st:=⟨_,rfl⟩
 rw[←hP];unfold fN at hP;rw[ib hk ek]at hP;simp only[au,Aaa,Aab,uN,bC,r4,y1,y2,y3];refine al.fk (by simp only[EO,y3,y4]) (aI (b9.fk (aB.bO true) oQ) (aI (.same _) aZ)) (fun h=>PG true v.aq[k].questions hlok.2.1 q h) (.int _ _) ?_;simp only[au,Aaa,Aab,uN,bC];refine al.ref (by simp only[EO]) (CN hE (iw v.aq[k].questions q) o) ?_;obtain⟨E0,hE0⟩:∃E0,E0=iw v.aq[k].questions q:=⟨_,rfl⟩
 rw[←hE0]at hP ⊢;have no:P<0→((true=true∧¬P<0∧∃e,(AV.tup [.nilp,.int .i64 0])=.tup [e,.int .i64 P]∧fh 12 wE P=some e)∨(¬(true=true∧¬P<0)∧(AV.tup [.nilp,.int .i64 0])=.tup [.nilp,.int .i64 0])):=fun h=>.inr ⟨fun g=>g.2 h,rfl⟩;rintro r h1 ⟨⟨e1,i1⟩|⟨e1,rfl⟩,e⟩;rotate_left
 ·replace e:h1=h':=e;subst e;have fin:=no (by rw[hP,if_neg (fun h=>by rw[e1]at h;cases h.1)];omega);simp only[au,Aaa,Aab,uN,bC];first|exact⟨rfl,rfl⟩|exact⟨⟨rfl,rfl⟩,fin⟩|exact⟨⟨rfl,rfl⟩,fin,rfl⟩|exact⟨rfl,fin,rfl⟩|exact⟨rfl,fin⟩|exact⟨fin,rfl⟩|exact fin|(refine⟨⟨rfl,rfl⟩,?_⟩;simpa using fin)|(refine⟨rfl,?_⟩;simpa using fin)
 replace e:h1=h':=e;subst e;obtain⟨j,hj,ej,ej2,eA⟩:=cL e1;obtain⟨bS,gS,preS,rowS,postS,fT,iS,mS,lS,oS2,nfT,sT,bmS,bnS,wr⟩:=o.ph hj;rw[←ej,i1]at iS;injection iS with iS
 subst iS;obtain⟨en,he⟩:∃en,en=aD v E0:=⟨_,rfl⟩
 rw[←eA,←he]at oS2;rw[←he]at hP;obtain⟨wS2,wQ2,wA2,fS2,fQ2,fA2,rfl,rfl,oS3,oQQ,oAA⟩:=c5 oS2;have q0:∀(e':List AV) (L:List (List AV)),(St.mk e' L h1).cells (.gp bS gS preS.length) 1=some [.int .i64 en.kind]:=fun e' L=>by rw[mS.sH e' L 1 (by simp)];rfl
 have q0':∀(e':List AV) (L:List (List AV)),(St.mk e' L h1).cells (.gp bS gS (preS.length+0)) 1=some [.int .i64 en.kind]:=fun e' L=>q0 e' L;have q3:∀(e':List AV) (L:List (List AV)),(St.mk e' L h1).cells (.gp bS gS (preS.length+3)) 1=some [.int .i64 en.state]:=fun e' L=>mS.cells e' L 3 1 (by simp);have q8:∀(e':List AV) (L:List (List AV)),(St.mk e' L h1).cells (.gp bS gS (preS.length+8)) 1=some [.int .i64 en.peer]:=fun e' L=>mS.cells e' L 8 1 (by simp);have q9:∀(e':List AV) (L:List (List AV)),(St.mk e' L h1).cells (.gp bS gS (preS.length+9)) 1=some [.int .i64 en.pos]:=fun e' L=>mS.cells e' L 9 1 (by simp);by_cases t1:en.kind=2;rotate_left
 ·have fin:=no (by rw[hP,if_neg (fun h=>t1 h.2.1)];omega);simp only[au,Aaa,Aab,uN,bC,ag,q0,q0',q3,q8,q9,aW t1];first|exact⟨rfl,rfl⟩|exact⟨⟨rfl,rfl⟩,fin⟩|exact⟨⟨rfl,rfl⟩,fin,rfl⟩|exact⟨rfl,fin,rfl⟩|exact⟨rfl,fin⟩|exact⟨fin,rfl⟩|exact fin|(refine⟨⟨rfl,rfl⟩,?_⟩;simpa using fin)|(refine⟨rfl,?_⟩;simpa using fin)
 by_cases t2:en.state=st;rotate_left
 ·have fin:=no (by rw[hP,if_neg (fun h=>t2 h.2.2.1)];omega);simp only[au,Aaa,Aab,uN,bC,ag,q0,q0',q3,q8,q9,aR t1,aW t2];first|exact⟨rfl,rfl⟩|exact⟨⟨rfl,rfl⟩,fin⟩|exact⟨⟨rfl,rfl⟩,fin,rfl⟩|exact⟨rfl,fin,rfl⟩|exact⟨rfl,fin⟩|exact⟨fin,rfl⟩|exact fin|(refine⟨⟨rfl,rfl⟩,?_⟩;simpa using fin)|(refine⟨rfl,?_⟩;simpa using fin)
 by_cases t3:en.peer=peer;rotate_left
 ·have fin:=no (by rw[hP,if_neg (fun h=>t3 h.2.2.2.1)];omega);simp only[au,Aaa,Aab,uN,bC,ag,q0,q0',q3,q8,q9,aR t1,aR t2,aW t3];first|exact⟨rfl,rfl⟩|exact⟨⟨rfl,rfl⟩,fin⟩|exact⟨⟨rfl,rfl⟩,fin,rfl⟩|exact⟨rfl,fin,rfl⟩|exact⟨rfl,fin⟩|exact⟨fin,rfl⟩|exact fin|(refine⟨⟨rfl,rfl⟩,?_⟩;simpa using fin)|(refine⟨rfl,?_⟩;simpa using fin)
 by_cases t4:en.pos=q;rotate_left
 ·have fin:=no (by rw[hP,if_neg (fun h=>t4 h.2.2.2.2)];omega);simp only[au,Aaa,Aab,uN,bC,ag,q0,q0',q3,q8,q9,aR t1,aR t2,aR t3,aW t4];first|exact⟨rfl,rfl⟩|exact⟨⟨rfl,rfl⟩,fin⟩|exact⟨⟨rfl,rfl⟩,fin,rfl⟩|exact⟨rfl,fin,rfl⟩|exact⟨rfl,fin⟩|exact⟨fin,rfl⟩|exact fin|(refine⟨⟨rfl,rfl⟩,?_⟩;simpa using fin)|(refine⟨rfl,?_⟩;simpa using fin)
 rw[if_pos ⟨e1,t1,t2,t3,t4⟩]at hP;subst hP;have fin:((true=true∧¬P<0∧∃e,(AV.tup [.gp bS gS preS.length,.int .i64 P])=.tup [e,.int .i64 P]∧fh 12 wE P=some e)∨(¬(true=true∧¬P<0)∧(AV.tup [.gp bS gS preS.length,.int .i64 P])=.tup [.nilp,.int .i64 0])):=.inl ⟨rfl,by omega,_,rfl,i1⟩;simp only[au,Aaa,Aab,uN,bC,ag,q0,q0',q3,q8,q9,aR t1,aR t2,aR t3,aR t4];first|exact⟨rfl,rfl⟩|exact⟨⟨rfl,rfl⟩,fin⟩|exact⟨⟨rfl,rfl⟩,fin,rfl⟩|exact⟨rfl,fin,rfl⟩|exact⟨rfl,fin⟩|exact⟨fin,rfl⟩|exact fin|(refine⟨⟨rfl,rfl⟩,?_⟩;simpa using fin)|(refine⟨rfl,?_⟩;simpa using fin)
set_option maxHeartbeats 4000000 in
set_option maxRecDepth 100000 in
theorem Px{K:Nat}(v:ar)(g:GI K v)(hrq:RQ [] v)(hki:KI v)(hK:K+1≤1000)(peer:Int)(hu:rO v.aq peer=true)(q p:Int)(x:an)(H:AH){b:Nat}{f:List Nat}(a:jr H b v f):
 T pQ Γ Fn.kaQ [.gp b 0 0,.int .i64 peer,.int .i64 q,.int .i64 p,.agg (x.c false)] H fun r H'=>r=.tup []∧e9 H b (fun c=>c∈f) H' (ta v peer q p x):=by
 have hvi:=g.vi;have gw:=g.w;obtain⟨wE,w2,wL,w4,fE,f2,fL,f4,rfl,o⟩:=a;have hL:v.aq.length≤1048576:=by have:=hvi.aq;omega
 refine Vs (aC aG mixed [] _ _ _ ?_);unfold Q0;simp only[au,Aaa,Aab,CA,bC,an.c];refine al.ref (by simp only[EO]) (Gf hL peer o) ?_;rintro r h' ⟨hlk,e⟩;replace e:h'=H:=e;subst e;rcases hlk with⟨_,k,hk,ek,ik⟩|⟨g,_⟩
 rotate_left
 ·rw[hu]at g;cases g
 obtain⟨bL,gL,pre,row,post,f0,iL,mL,lR,oR,nf0,sf0,bmL,bnL,wrL⟩:=o.rU hk;rw[iL]at ik;injection ik with ik
 subst ik;have hlok:=hvi.Cu.mono (show wV v+100≤1048576 by omega) _ (Aae hk);obtain⟨wX,wQ,wA,fX,fQ,fA,rfl,rfl,oX,oQ,oA⟩:=ck oR;obtain⟨y1,y2,y3,y4⟩:=oQ.cell;have r4:∀(e:List AV) (L:List (List AV)),(St.mk e L h').cells (.gp bL gL (pre.length+4)) 1=some [wQ]:=fun e L=>mL.cells e L 4 1 (by simp);simp only[au,Aaa,Aab,CA,bC,an.c,r4,y1,y2,y3];refine al.own (by simp only[EO,y3,y4]) (aI (b9.fk (aB.bO true) oQ) (aI (.same _) aZ)) (fun h=>PT true v.aq[k].questions hlok.2.1 q h) ?_;rintro w H2 fr;replace fr:aX h' _ _ _:=fr;obtain⟨fw,ow,nw,bw,ew⟩:=fr.c1;obtain⟨z1,z2,z3,z4⟩:=ow.cell;have bLlt:bL<h'.length:=o.lt _ (aO.2 (.inr (.inr (.inl bmL))));have m2:pj H2 bL gL pre [.int .i64 v.aq[k].peer,.bool v.aq[k].up,wX,.int .i64 v.aq[k].next,wQ,.int .i64 v.aq[k].asked,wA] post:=⟨by rw[bc (ew.fr bL bLlt)];exact mL.eq⟩
 obtain⟨H3,s3,m3,l3,r3⟩:=m2.put 4 [w] (by simp) (by simp only[je,jg,z3];rfl);replace m3:pj H3 bL gL pre [.int .i64 v.aq[k].peer,.bool v.aq[k].up,wX,.int .i64 v.aq[k].next,w,.int .i64 v.aq[k].asked,wA] post:=m3;have lw:=ew.len;have lt0:=oR.lt;have f23:∀c,c<h'.length→c≠bL→H3[c]? = h'[c]?:=fun c h1 h2=>by rw[r3 c h2,ew.fr c h1]
 obtain⟨nX,nQA,dX⟩:=Aac.1 nf0;obtain⟨_,nA,dQ⟩:=Aac.1 nQA;obtain⟨fL3,o3,me3⟩:=wrL H3 _ (rG v.aq[k] q) (fX++(fw++fA)) [] (by omega) (fun c hc=>by cases hc) m3
  (gB (l:=rG v.aq[k] q) (oX.frame fun c hc=>f23 c (lt0 c (by simp[hc])) (fun e=>bnL (e▸(by simp[hc])))) (ow.frame fun c hc=>r3 c (fun e=>by have:=bw c hc;omega)) (oA.frame fun c hc=>f23 c (lt0 c (by simp[hc])) (fun e=>bnL (e▸(by simp[hc])))))
  (Aac.2 ⟨nX,Aac.2 ⟨nw,nA,fun x hx y hy e=>by have:=bw x hx;have:=oA.lt y hy;omega⟩,fun x hx y hy e=>by
   rcases Aad.1 hy with s|s
   ·have:=oX.lt x hx;have:=bw y s;omega
   ·exact dX x hx y (by simp[s]) e⟩)
  (fun c hc=>by
   simp only[Aad]at hc ⊢;rcases hc with s|s|s
   ·exact .inl (.inl s)
   ·exact .inr (.inr (bw c s))
   ·exact .inl (.inr (.inr s)))
  (fun c h1 _ _ h3=>f23 c h1 h3)
 have g1:=g.fin hk q;have rq1:=uU hrq k (rG v.aq[k] q);have ki1:=xM hki k (rG v.aq[k] q);have a3v:jr H3 b (dU v k (rG v.aq[k] q)) (dh fE f2 fL3 f4):=o3.at;obtain⟨v1,hv1⟩:∃v1,v1=dU v k (rG v.aq[k] q):=⟨_,rfl⟩
 rw[←hv1]at g1 rq1 ki1 a3v;have mm3:∀c∈dh fE f2 fL3 f4,c∈dh fE f2 fL f4∨h'.length≤c:=fun c hc=>by
  rcases aO.1 hc with s|s|s|s
  ·exact .inl (aO.2 (.inl s))
  ·exact .inl (aO.2 (.inr (.inl s)))
  ·rcases me3 c s with⟨s,_⟩|s
   ·exact .inl (aO.2 (.inr (.inr (.inl s))))
   ·simp only[Aad]at s;rcases s with s|s|s
    ·exact .inl (aO.2 (.inr (.inr (.inl (sf0 c (by simp[s]))))))
    ·exact .inr (bw c s)
    ·exact .inl (aO.2 (.inr (.inr (.inl (sf0 c (by simp[s]))))))
  ·exact .inl (aO.2 (.inr (.inr (.inr s))))
 have rr3:∀c,¬(c∈dh fE f2 fL f4)→c≠b→c<h'.length→H3[c]? = h'[c]?:=fun c h1 _ h3=>f23 c h3 (fun e=>h1 (e▸aO.2 (.inr (.inr (.inl bmL)))));simp only[au,Aaa,Aab,CA,bC,an.c,z1,z2,z3,s3,ji,sO,sI,sK];refine al.ref rfl (Bq v1 (by have:=g1.vi.aq;omega) (by have:=g1.w;rw[yr]at this;omega) peer (gU 5 q) H3 a3v (sC H3 5 q) Aam (fun c hc=>by cases hc)) ?_;rintro _ H4 ⟨rfl,u4⟩;replace u4:e9 H3 b (fun c=>c∈dh fE f2 fL3 f4∨c∈[]) H4 _:=u4;have g2:=g1.push peer (gU 5 q) ⟨Aao _,Aao _⟩;have rq2:=vd rq1 peer (gU 5 q);have ki2:=xU ki1 peer (gU 5 q);obtain⟨v2,hv2⟩:∃v2,v2=e8 v1 peer (gU 5 q):=⟨_,rfl⟩
 rw[←hv2]at g2 u4 rq2 ki2;obtain⟨f4',a4v,l4,m4,r4'⟩:=e9.trans (F:=fun c=>c∈dh fE f2 fL f4) (by omega) mm3 rr3 u4 (fun c hc=>hc.elim .inl fun h=>by cases h);simp only[au,Aaa,Aab,CA,bC,an.c];refine al.ref rfl (R5 (Kh (mJ v2+1)) v2 [] p x (Nat.le_succ _) g2.vi ki2 rq2 (by have:=g2.w;omega) H4 a4v) ?_;rintro _ H5 ⟨rfl,u5⟩;replace u5:e9 H4 b (fun c=>c∈f4') H5 _:=u5;have eV:qJ v peer q=v2:=by
  rw[hv2,hv1,qJ,ib hk ek,sg,ek];rfl
 have fin:e9 h' b (fun c=>c∈dh fE f2 fL f4) H5 (ta v peer q p x):=by
  unfold ta;rw[eV];exact e9.trans l4 m4 r4' u5 (fun c hc=>.inl hc)
 simp only[au,Aaa,Aab,CA,bC,an.c];first|exact⟨rfl,fin⟩|exact⟨rfl,rfl,fin⟩|exact fin
set_option maxHeartbeats 4000000 in
set_option maxRecDepth 100000 in
theorem Se{K:Nat}(v:ar)(g:GI K v)(hrq:RQ [] v)(hki:KI v)(hK:K+1≤1000)(peer:Int)(β:Bool)(m:ah)(hm:m.args.length≤4)(hn:m.name.size≤100)(H:AH){b:Nat}{f:List Nat}(a:jr H b v f):
 T pQ Γ Fn.ka1 [.gp b 0 0,.int .i64 peer,.agg (m.c β)] H fun r H'=>r=.tup []∧e9 H b (fun c=>c∈f) H' (nJ v peer m):=by
 obtain⟨R,hR⟩:∃R,R=nJ v peer m:=⟨_,rfl⟩
 rw[←hR];unfold nJ at hR;have hvi:=g.vi;have gw:=g.w;obtain⟨wE,w2,wL,w4,fE,f2,fL,f4,rfl,o⟩:=a;have stop:R=v→e9 H b (fun c=>c∈dh fE f2 fL f4) H R:=fun e=>by rw[e];exact e9.refl o.at fun c hc=>hc
 refine YN (aC aG mixed [] _ _ _ ?_);unfold S3;by_cases k1:m.kind=4;rotate_left
 ·simp only[au,Aaa,Aab,Ay,rW,mW,bN,ag,ae,ah.c,aW k1];have sp:=stop (by rw[hR,if_neg (fun h=>k1 h.1)]);first|exact⟨rfl,sp⟩|exact⟨rfl,rfl,sp⟩|exact sp
 simp only[au,Aaa,Aab,Ay,rW,mW,bN,ag,ae,ah.c,aR k1];refine al.val (by simp only[EO]) (Ik β m (by omega) (by omega) _) ?_;cases im:pX m
 ·simp only[au,Aaa,Aab,Ay,rW,mW,bN,ag,ae,ah.c];have sp:=stop (by rw[hR,if_neg (fun h=>by rw[im]at h;cases h.2.1)]);first|exact⟨rfl,sp⟩|exact⟨rfl,rfl,sp⟩|exact sp
 simp only[au,Aaa,Aab,Ay,rW,mW,bN,ag,ae,ah.c];refine al.ref (by simp only[EO]) (Sb v hvi (by omega) peer m.question 4 H o) ?_;rintro r h' ⟨⟨hu,hp0,e,rfl,iE⟩|⟨hno,rfl⟩,eh⟩;rotate_left
 ·replace eh:h'=H:=eh;subst eh;simp only[au,Aaa,Aab,Ay,rW,mW,bN,ag,ae,ah.c];have sp:=stop (by rw[hR,if_neg (fun h=>hno ⟨h.2.2.1,h.2.2.2⟩)]);first|exact⟨rfl,sp⟩|exact⟨rfl,rfl,sp⟩|exact sp
 replace eh:h'=H:=eh;subst eh;rw[if_pos ⟨k1,im,hu,hp0⟩]at hR;obtain⟨hp,_,_⟩:=tA hp0;obtain⟨p,hpe⟩:∃p,p=fN v peer m.question 4:=⟨_,rfl⟩
 rw[←hpe]at hp hR iE ⊢;obtain⟨j,hj,ej,ej2,ej3⟩:=cL hp;obtain⟨bS,gS,preS,rowS,postS,fT,iS,mS,lS,oS2,nfT,sT,bmS,bnS,wrS⟩:=o.ph hj;rw[←ej,iE]at iS;injection iS with iS
 subst iS;obtain⟨en,hen⟩:∃en,en=v.entities[j]:=⟨_,rfl⟩
 rw[←hen]at oS2;obtain⟨wS2,wQ2,wA2,fS2,fQ2,fA2,rfl,rfl,oSS,oQQ,oAA⟩:=c5 oS2;have rd4:∀(e:List AV) (L:List (List AV)),(St.mk e L h').cells (.gp bS gS (preS.length+4)) 2=some [.int .i64 en.value.kind,.int .i64 en.value.n]:=fun e L=>mS.cells e L 4 2 (by simp);simp only[au,Aaa,Aab,Ay,rW,mW,bN,ag,ae,ah.c,rd4];refine al.ref (by simp only[EO]) (Px v g hrq hki hK peer hu m.question p en.value h' o.at) ?_;have eA:aD v p=en:=by rw[ej3,hen]
 rw[eA]at hR;rw[←hR];rintro _ H5 ⟨rfl,fin⟩;simp only[au,Aaa,Aab,Ay,rW,mW,bN,ag,ae,ah.c];first|exact⟨rfl,fin⟩|exact⟨rfl,rfl,fin⟩|exact fin
set_option maxHeartbeats 8000000 in
set_option maxRecDepth 100000 in
theorem SE{K:Nat}(v:ar)(g:GI K v)(hrq:RQ [] v)(hki:KI v)(hK:K+1≤1000)(peer:Int)(β:Bool)(m:ah)(hm:m.args.length≤4)(hn:m.name.size≤100)(H:AH){b:Nat}{f:List Nat}(a:jr H b v f):
 T pQ Γ Fn.ka2 [.gp b 0 0,.int .i64 peer,.agg (m.c β)] H fun r H'=>r=.tup []∧e9 H b (fun c=>c∈f) H' (ng v peer m):=by
 obtain⟨R,hR⟩:∃R,R=ng v peer m:=⟨_,rfl⟩
 rw[←hR];unfold ng at hR;have hvi:=g.vi;have gw:=g.w;obtain⟨wE,w2,wL,w4,fE,f2,fL,f4,rfl,o⟩:=a;have stop:R=v→e9 H b (fun c=>c∈dh fE f2 fL f4) H R:=fun e=>by rw[e];exact e9.refl o.at fun c hc=>hc
 refine Ut (aC aG mixed [] _ _ _ ?_);unfold OJ;by_cases k1:m.kind=2;rotate_left
 ·simp only[au,Aaa,Aab,su,kE,jd,bN,ag,ae,ah.c,aJ.c,aW k1];have sp:=stop (by rw[hR,if_neg (fun h=>k1 h.1)]);first|exact⟨rfl,sp⟩|exact⟨rfl,rfl,sp⟩|exact sp
 simp only[au,Aaa,Aab,su,kE,jd,bN,ag,ae,ah.c,aJ.c,aR k1];refine al.val (by simp only[EO]) (Ik β m (by omega) (by omega) _) ?_;cases im:pX m
 ·simp only[au,Aaa,Aab,su,kE,jd,bN,ag,ae,ah.c,aJ.c];have sp:=stop (by rw[hR,if_neg (fun h=>by rw[im]at h;cases h.2.1)]);first|exact⟨rfl,sp⟩|exact⟨rfl,rfl,sp⟩|exact sp
 simp only[au,Aaa,Aab,su,kE,jd,bN,ag,ae,ah.c,aJ.c];refine al.ref (by simp only[EO]) (Sb v hvi (by omega) peer m.question 3 H o) ?_;rintro r h' ⟨⟨hu,hp0,e,rfl,iE⟩|⟨hno,rfl⟩,eh⟩;rotate_left
 ·replace eh:h'=H:=eh;subst eh;simp only[au,Aaa,Aab,su,kE,jd,bN,ag,ae,ah.c,aJ.c];have sp:=stop (by rw[hR,if_neg (fun h=>hno ⟨h.2.2.1,h.2.2.2⟩)]);first|exact⟨rfl,sp⟩|exact⟨rfl,rfl,sp⟩|exact sp
 replace eh:h'=H:=eh;subst eh;rw[if_pos ⟨k1,im,hu,hp0⟩]at hR;obtain⟨hp,hk2,hk3⟩:=tA hp0;obtain⟨p,hpe⟩:∃p,p=fN v peer m.question 3:=⟨_,rfl⟩
 rw[←hpe]at hp hR iE hk2 hk3 ⊢;have ene:∃(bS gS nS:Nat),e=.gp bS gS nS:=by
  obtain⟨j,hj,ej,ej2,ej3⟩:=cL hp;obtain⟨bS,gS,preS,rowS,postS,fT,iS,_⟩:=o.ph hj;rw[←ej,iE]at iS;injection iS with iS
  exact⟨_,_,_,iS⟩
 obtain⟨b0,g0,n0,rfl⟩:=ene;simp only[au,Aaa,Aab,su,kE,jd,bN,ag,ae,ah.c,aJ.c];have ct:=SZ (Γ:=Γ) v hvi (by omega) peer β m.value h' o.at;have F1:=nG v peer m.value;have Kk:=yw v peer m.value;obtain⟨v1,hv1e⟩:∃v1,v1=(gm v peer m.value).1:=⟨_,rfl⟩
 obtain⟨x,hxe⟩:∃x,x=(gm v peer m.value).2:=⟨_,rfl⟩
 rw[←hv1e,←hxe]at ct hR;rw[←hv1e]at F1 Kk;refine al.ref (by simp only[EO]) ct ?_;rintro _ H2 ⟨rfl,f1,a1v,l1,m1,r1⟩;replace a1v:jr H2 b v1 f1:=a1v;replace l1:h'.length≤H2.length:=l1;replace r1:∀c,¬(c∈dh fE f2 fL f4)→c≠b→c<h'.length→H2[c]? = h'[c]?:=r1;have g1:=g.fr F1;have rq1:=Kk.rq _ hrq;have ki1:=Kk.ki hki;have hu1:rO v1.aq peer=true:=by rw[F1.aq];exact hu
 have hp1:bB p v1.entities.length=true:=oC hp Kk.len;have finish:∀r H',(r=AV.tup []∧e9 H2 b (fun c=>c∈f1) H' R)→r=.tup []∧e9 h' b (fun c=>c∈dh fE f2 fL f4) H' R:=fun r H' h=>by
  obtain⟨rfl,u'⟩:=h;exact⟨rfl,e9.trans l1 m1 r1 u' (fun c hc=>.inl hc)⟩
 obtain⟨uE,u2,uL,u4,gE,g2,gL',g4,rfl,oM⟩:=a1v;have hE1:v1.entities.length≤1048576:=by have:=g1.vi.fH;omega
 simp only[au,Aaa,Aab,su,kE,jd,bN,ag,ae,ah.c,aJ.c,an.c];refine al.ref (by simp only[EO]) (CN hE1 p oM) ?_;rintro r h1 ⟨⟨_,i1⟩|⟨e1,_⟩,e⟩;rotate_left
 ·rw[hp1]at e1;cases e1
 replace e:h1=H2:=e;subst e;obtain⟨j,hj,ej,ej2,ej3⟩:=cL hp1;obtain⟨bS,gS,preS,rowS,postS,fT,iS,mS,lS,oS2,nfT,sT,bmS,bnS,wrS⟩:=oM.ph hj;rw[←ej,i1]at iS;injection iS with iS
 subst iS;obtain⟨en,hen⟩:∃en,en=v1.entities[j]:=⟨_,rfl⟩
 rw[←hen]at oS2;have eA:aD v1 p=en:=by rw[ej3,hen]
 obtain⟨wS2,wQ2,wA2,fS2,fQ2,fA2,rfl,rfl,oSS,oQQ,oAA⟩:=c5 oS2;obtain⟨p1,p2,p3,p4⟩:=oSS.cell;obtain⟨q1,q2,q3,q4⟩:=oQQ.cell;obtain⟨s1,s2,s3,s4⟩:=oAA.cell;have rd10:∀(e:List AV) (L:List (List AV)),(St.mk e L h1).cells (.gp bS gS (preS.length+10)) 1=some [.int .i64 en.count]:=fun e L=>mS.cells e L 10 1 (by simp);by_cases k2:m.value.kind=2∧0<en.count;rotate_left
 ·have cf:=Px (Γ:=Γ) v1 g1 rq1 ki1 hK peer hu1 m.question p x h1 oM.at;rw[show ta v1 peer m.question p x=R by rw[hR,if_neg (by rw[eA];exact k2)]]at cf;by_cases k3:m.value.kind=2
  ·simp only[au,Aaa,Aab,su,kE,jd,bN,ag,ae,ah.c,aJ.c,an.c,aR k3,rd10,show decide (en.count>0)=false from aW (fun h=>k2 ⟨k3,h⟩)];refine al.ref (by simp only[EO]) (cf.mono finish) ?_;rintro _ H5 ⟨rfl,fin⟩;simp only[au,Aaa,Aab,su,kE,jd,bN,ag,ae];first|exact⟨rfl,fin⟩|exact⟨rfl,rfl,fin⟩|exact fin
  ·simp only[au,Aaa,Aab,su,kE,jd,bN,ag,ae,ah.c,aJ.c,an.c,aW k3,rd10];refine al.ref (by simp only[EO]) (cf.mono finish) ?_;rintro _ H5 ⟨rfl,fin⟩;simp only[au,Aaa,Aab,su,kE,jd,bN,ag,ae];first|exact⟨rfl,fin⟩|exact⟨rfl,rfl,fin⟩|exact fin
 obtain⟨H3,st3,m3,l3,r3⟩:=mS.put 3 [.int .i64 4] (by simp) rfl;replace m3:pj H3 bS gS preS [.int .i64 en.kind,.int .i64 en.script,wS2,.int .i64 4,.int .i64 en.value.kind,.int .i64 en.value.n,wQ2,wA2,.int .i64 en.peer,.int .i64 en.pos,.int .i64 en.count,.int .i64 en.sent] postS:=m3;obtain⟨H4,st4,m4,l4,r4⟩:=m3.put 4 [.int .i64 x.kind,.int .i64 x.n] (by simp) rfl;replace m4:pj H4 bS gS preS [.int .i64 en.kind,.int .i64 en.script,wS2,.int .i64 4,.int .i64 x.kind,.int .i64 x.n,wQ2,wA2,.int .i64 en.peer,.int .i64 en.pos,.int .i64 en.count,.int .i64 en.sent] postS:=m4;have f34:∀c,c≠bS→H4[c]? = h1[c]?:=fun c h=>by rw[r4 c h,r3 c h]
 obtain⟨fE4,o4,me4⟩:=wrS H4 _ (uB en x) (fS2++(fQ2++fA2)) [] (by omega) (fun c hc=>by cases hc) m4
  (jo (e:=uB en x) (oSS.frame fun c hc=>f34 c (fun e=>bnS (e▸(by simp[hc])))) (oQQ.frame fun c hc=>f34 c (fun e=>bnS (e▸(by simp[hc])))) (oAA.frame fun c hc=>f34 c (fun e=>bnS (e▸(by simp[hc]))))) nfT (fun c hc=>.inl hc) (fun c _ _ _ h=>f34 c h)
 have ev:({ v1 with entities:=v1.entities.set j (uB en x) }:ar)=cT v1 p.toNat (uB en x):=by rw[cT,ej2]
 rw[ev]at o4;have gE1:=gZ g1.vi p;rw[eA]at gE1;have g2':=g1.cT hp1 (uB en x) (by rw[eA];rfl) gE1;obtain⟨v3,hv3⟩:∃v3,v3=cT v1 p.toNat (uB en x):=⟨_,rfl⟩
 rw[←hv3]at o4 g2';have sub4:∀c∈dh fE4 g2 gL' g4,c∈dh gE g2 gL' g4:=fun c hc=>by
  rcases aO.1 hc with s|s|s|s
  ·rcases me4 c s with⟨s,_⟩|s
   ·exact aO.2 (.inl s)
   ·exact aO.2 (.inl (sT c s))
  ·exact aO.2 (.inr (.inl s))
  ·exact aO.2 (.inr (.inr (.inl s)))
  ·exact aO.2 (.inr (.inr (.inr s)))
 simp only[au,Aaa,Aab,su,kE,jd,bN,ag,ae,ah.c,aJ.c,an.c,aR k2.1,rd10,show decide (en.count>0)=true from aR k2.2,st3,st4,ji,sO,sI,sK];refine⟨lG fun r hr=>by
  simp only[List.mem_cons,List.not_mem_nil,or_false]at hr;subst hr;exact .inl ⟨_,_,rfl⟩,?_⟩
 refine al.ref rfl (Bq v3 (by have:=g2'.vi.aq;omega) (by have:=g2'.w;rw[yr]at this;omega) peer (gU 3 m.question) H4 o4.at (sC H4 3 m.question) Aam (fun c hc=>by cases hc)) ?_;rintro _ H6 ⟨rfl,u6⟩;replace u6:e9 H4 b (fun c=>c∈dh fE4 g2 gL' g4∨c∈[]) H6 _:=u6;have eR:R=e8 v3 peer (gU 3 m.question):=by
  rw[hR,if_pos ⟨k2.1,by rw[eA];exact k2.2⟩,eA,hv3]
 have fin:=(finish (.tup []) H6 (by
  rw[eR];exact⟨rfl,e9.trans (f1:=dh fE4 g2 gL' g4) (by omega) (fun c hc=>.inl (sub4 c hc)) (fun c h1 _ _=>f34 c (fun e=>h1 (e▸aO.2 (.inl bmS)))) u6 (fun c hc=>hc.elim .inl fun h=>by cases h)⟩)).2
 simp only[au,Aaa,Aab,su,kE,jd,bN,ag,ae];first|exact⟨rfl,fin⟩|exact⟨rfl,rfl,fin⟩|exact fin
set_option maxHeartbeats 4000000 in
set_option maxRecDepth 100000 in
theorem HU(β:Bool)(v:ar)(hv:v.ok 1048576)(h:AH):T pQ Γ Fn.kaM [.agg (v.c β)] h (aX h [.a v.cd]):=by
 have L0:=eY β 12 false v.entities (aA.c β);have L1:=eY β 7 false v.aq (aF.c β);have L2:=eY β 13 false v.out (aY.c β);obtain⟨hv1,hv2,hv3,hv4,hv5,hv6,hv7,hv8⟩:=hv;refine T.jJ ?_;refine ZD (aC aG mixed [] _ _ _ ?_);unfold Ql;simp only[au,Aaa,Aab,qA,jG,jK,jN,jM,hU,ia,hQ,ie,cK,ER,ar.c];refine⟨?_,?_⟩;refine al.ref (by simp only[EO]) (Mt β v.loop hv3 hv4 _) ?_;rintro w1 H1 fr;replace fr:aX h _ _ _:=fr;obtain⟨f1,o1,n1,b1,e1⟩:=fr.c1;obtain⟨a1,a2,a3,a4⟩:=o1.cell;simp only[au,Aaa,Aab,qA,jG,jK,jN,jM,hU,ia,hQ,ie,cK,ER,ar.c,a1,a2,a3,L0];refine⟨(by first|exact e1.mem _ _ _|exact gh (e1.mem _ _ _)),(by first|exact Mem.loc ⟨_,([]:List (List AV))++[_,_],H1⟩ _ [_]|exact gh (Mem.loc ⟨_,([]:List (List AV))++[_,_],H1⟩ _ [_])),?_⟩;rotate_left;refine⟨(by first|exact Mem.loc ⟨_,([]:List (List AV))++[_,_],h⟩ _ [_]|exact gh (Mem.loc ⟨_,([]:List (List AV))++[_,_],h⟩ _ [_])),?_⟩;refine al.ref (by simp only[EO]) (Mt β v.loop hv3 hv4 _) ?_;rintro w1 H1 fr;replace fr:aX h _ _ _:=fr;obtain⟨f1,o1,n1,b1,e1⟩:=fr.c1;obtain⟨a1,a2,a3,a4⟩:=o1.cell;simp only[au,Aaa,Aab,qA,jG,jK,jN,jM,hU,ia,hQ,ie,cK,ER,ar.c,a1,a2,a3,L0];refine⟨(by first|exact e1.mem _ _ _|exact gh (e1.mem _ _ _)),?_⟩;rotate_left;all_goals (
  refine fD aG mixed [] (fun y:Nat×AV×AH×List Nat×List (List AV)=>y.1≤v.entities.length∧b9 y.2.2.1 y.2.1 (.sl 12 ((v.entities.take y.1).map aA.cd)) y.2.2.2.1∧y.2.2.2.1.Nodup∧(∀c∈y.2.2.2.1,H1.length≤c)∧cQ H1 y.2.2.1∧y.2.2.2.2[([]:List (List AV)).length]? = some (v.c β)∧(∃zzE,y.2.2.2.2[([]:List (List AV)).length+1]? = some zzE∧zzE.length=5)∧y.2.2.2.2[([]:List (List AV)).length+2]? = some [AV.int .i64 v.id,y.2.1,w1,.nils,.nils]) (fun y=>v.entities.length-y.1)
   (fun y=>EN (.lp ([]:List (List AV)).length 0) (.lp (([]:List (List AV)).length+1) 0) (.lp (([]:List (List AV)).length+2) 0) (.vs β 12 false (v.entities.map (aA.c β))) (.int .i64 v.entities.length) (.int .i64 y.1) y.2.2.2.2 y.2.2.1) (0,.nils,H1,[],_) ⟨by simp,.nil _,by simp,by simp,cQ.refl _,rfl,⟨_,rfl,rfl⟩,rfl⟩ ⟨by simp[EN,gW,gM],rfl,rfl⟩ ?_
  rintro⟨k,wE,HE,fpE,ME⟩ ⟨hk,hoE,ndE,hfpE,hxE,hM0E,⟨zzE,hM1E,hzzE⟩,hM2E⟩;simp only at hk hoE ndE hfpE hxE hM0E hM1E hM2E;have hMlE:([]:List (List AV)).length+2<ME.length:=aL hM2E;obtain⟨k1E,k2E,k3E,k4E⟩:=hoE.cell;simp only[au,Aaa,Aab,qA,jG,jK,jN,jM,hU,ia,hQ,ie,EN];refine bz (fun hlt=>?_) (fun hge=>?_)
  ·have hlt:k<v.entities.length:=by simpa using hlt
   have i0:=fI (β:=β) (sz:=12) (ex:=false) (ce:=aA.c β) hlt;have he:=hv2 _ (Aae hlt);generalize hxe:v.entities[k]=x at *;have r2:∀(z:List AV) (e:List AV) (h:AH) (off n:Nat),(St.mk e (ME++[z]) h).cells (.lp (([]:List (List AV)).length+2) off) n=sub [AV.int .i64 v.id,wE,w1,.nils,.nils] off n:=fun z e h off n=>de (ju hM2E _);have rl:∀(z:List AV) (e:List AV) (h:AH) (off n:Nat),(St.mk e (ME++[z]) h).cells (.lp ME.length off) n=sub z off n:=fun z e h off n=>de (xT _ _);have s2:∀(z:List AV) (e:List AV) (h:AH) (a:AV),cn a=true→(St.mk e (ME++[z]) h).store (.lp (([]:List (List AV)).length+2) 1) [a]=some ⟨e,(ME++[z]).set (([]:List (List AV)).length+2) (c8 [AV.int .i64 v.id,wE,w1,.nils,.nils] 1 [a]),h⟩:=fun z e h a ha=>tR (ju hM2E _) (by simp) ha;simp only[au,Aaa,Aab,qA,jG,jK,jN,jM,hU,ia,hQ,ie,i0,aA.c,cK,r2,rl,k1E,k2E,k3E];refine al.ref (by simp only[EO]) (aaa β x he _) ?_;rintro _ Hc fr;replace fr:aX HE _ _ _:=fr;obtain⟨aw,fw,rfl,ow,nw,bw,ew⟩:=fr.a1;have hdis:(fpE++fw).Nodup:=iG ndE nw (fun c hc=>hoE.lt c hc) bw;replace hoE:=hoE.ext ew;have hx1:=hxE.trans ew;have oo:=ow;simp only[aA.cd,jv,jy,j6,oF,nF]at oo;obtain⟨_,_,_,_,rfl,_,⟨rfl,rfl⟩,⟨_,_,_,_,rfl,_,⟨rfl,rfl⟩,⟨az2,_,_,_,rfl,_,uz2,⟨_,_,_,_,rfl,_,⟨rfl,rfl⟩,⟨_,_,_,_,rfl,_,⟨rfl,rfl⟩,⟨_,_,_,_,rfl,_,⟨rfl,rfl⟩,⟨az6,_,_,_,rfl,_,uz6,⟨az7,_,_,_,rfl,_,uz7,⟨_,_,_,_,rfl,_,⟨rfl,rfl⟩,⟨_,_,_,_,rfl,_,⟨rfl,rfl⟩,⟨_,_,_,_,rfl,_,⟨rfl,rfl⟩,⟨_,_,_,_,rfl,_,⟨rfl,rfl⟩,⟨rfl,_⟩⟩⟩⟩⟩⟩⟩⟩⟩⟩⟩⟩⟩:=oo;obtain⟨cz2a,cz2b,cz2c,cz2d⟩:=uz2.cell;obtain⟨cz6a,cz6b,cz6c,cz6d⟩:=uz6.cell;obtain⟨cz7a,cz7b,cz7c,cz7d⟩:=uz7.cell;obtain⟨v',H',fp',ea,o',nd',hf',hl',hm'⟩:=df (bytes:=144) hoE hdis (by omega) rfl ow (by simp only[Aaf,Aaj,aU];omega);obtain⟨j1,j2,j3,j4⟩:=o'.cell;simp only[au,Aaa,Aab,qA,jG,jK,jN,jM,hU,ia,hQ,ie,EA,cK,ER,cz2a,cz2b,cz2c,cz6a,cz6b,cz6c,cz7a,cz7b,cz7c,r2,rl,k1E,k2E,k3E,ea,j1,j2,j3,s2 _ _ _ _ j2];have hl9:=hxE.len;have hl8:=hx1.len;have hb':∀c∈fp',H1.length≤c:=fun c hc=>by
    rcases hm' c hc with g|g|g
    ·exact hfpE c g
    ·have:=bw c g;omega
    ·omega
   refine⟨(by first|exact ew.mem _ _ _|exact gh (ew.mem _ _ _)),?_⟩;exact⟨(k+1,v',H',fp',_),⟨hlt,by simp only;rw[Aag hlt,Aah,hxe];exact o',nd',hb',hx1.CZ hl' hf' hfpE,nZ (ju hM0E _) (by simp),⟨zzE,nZ (ju hM1E _) (by simp),hzzE⟩,mO (ju hM2E _)⟩,by simp only;omega,⟨by rw[wN (by omega)];simp[EN,gW,gM],rfl,rfl⟩⟩
  have hge:k=v.entities.length:=by simp at hge;omega
  subst hge;rw[Aak]at hoE;simp only[au,Aaa,Aab,qA,jG,jK,jN,jM,hU,ia,hQ,ie,show ∀(e:List AV) (h:AH) (off n:Nat),(St.mk e ME h).cells (.lp ([]:List (List AV)).length off) n=sub (v.c β) off n from fun e h off n=>de hM0E,show ∀(e:List AV) (h:AH) (off n:Nat),(St.mk e ME h).cells (.lp (([]:List (List AV)).length+2) off) n=sub [AV.int .i64 v.id,wE,w1,.nils,.nils] off n from fun e h off n=>de hM2E,ar.c,L0,L1,L2,ER,cK];refine fD aG mixed [] (fun y:Nat×AV×AH×List Nat×List (List AV)=>y.1≤v.aq.length∧b9 y.2.2.1 y.2.1 (.sl 7 ((v.aq.take y.1).map aF.cd)) y.2.2.2.1∧y.2.2.2.1.Nodup∧(∀c∈y.2.2.2.1,HE.length≤c)∧cQ HE y.2.2.1∧y.2.2.2.2[([]:List (List AV)).length]? = some (v.c β)∧(∃zzL,y.2.2.2.2[([]:List (List AV)).length+1]? = some zzL∧zzL.length=5)∧y.2.2.2.2[([]:List (List AV)).length+2]? = some [AV.int .i64 v.id,wE,w1,y.2.1,.nils]) (fun y=>v.aq.length-y.1)
   (fun y=>Ey (.lp ([]:List (List AV)).length 0) (.lp (([]:List (List AV)).length+1) 0) (.lp (([]:List (List AV)).length+2) 0) (.vs β 7 false (v.aq.map (aF.c β))) (.int .i64 v.aq.length) (.int .i64 y.1) y.2.2.2.2 y.2.2.1) (0,.nils,HE,[],_) ⟨by simp,.nil _,by simp,by simp,cQ.refl _,hM0E,⟨zzE,hM1E,hzzE⟩,hM2E⟩ ⟨by simp[Ey,gW,gM],rfl,rfl⟩ ?_
  rintro⟨k,wL,HL,fpL,ML⟩ ⟨hk,hoL,ndL,hfpL,hxL,hM0L,⟨zzL,hM1L,hzzL⟩,hM2L⟩;simp only at hk hoL ndL hfpL hxL hM0L hM1L hM2L;have hMlL:([]:List (List AV)).length+2<ML.length:=aL hM2L;obtain⟨k1L,k2L,k3L,k4L⟩:=hoL.cell;simp only[au,Aaa,Aab,qA,jG,jK,jN,jM,hU,ia,hQ,ie,Ey];refine bz (fun hlt=>?_) (fun hge=>?_)
  ·have hlt:k<v.aq.length:=by simpa using hlt
   have i0:=fI (β:=β) (sz:=7) (ex:=false) (ce:=aF.c β) hlt;have he:=hv6 _ (Aae hlt);generalize hxe:v.aq[k]=x at *;have r2:∀(z:List AV) (e:List AV) (h:AH) (off n:Nat),(St.mk e (ML++[z]) h).cells (.lp (([]:List (List AV)).length+2) off) n=sub [AV.int .i64 v.id,wE,w1,wL,.nils] off n:=fun z e h off n=>de (ju hM2L _);have rl:∀(z:List AV) (e:List AV) (h:AH) (off n:Nat),(St.mk e (ML++[z]) h).cells (.lp ML.length off) n=sub z off n:=fun z e h off n=>de (xT _ _);have s2:∀(z:List AV) (e:List AV) (h:AH) (a:AV),cn a=true→(St.mk e (ML++[z]) h).store (.lp (([]:List (List AV)).length+2) 3) [a]=some ⟨e,(ML++[z]).set (([]:List (List AV)).length+2) (c8 [AV.int .i64 v.id,wE,w1,wL,.nils] 3 [a]),h⟩:=fun z e h a ha=>tR (ju hM2L _) (by simp) ha;simp only[au,Aaa,Aab,qA,jG,jK,jN,jM,hU,ia,hQ,ie,i0,aF.c,cK,r2,rl,k1L,k2L,k3L];refine al.ref (by simp only[EO]) (Ws β x he _) ?_;rintro _ Hc fr;replace fr:aX HL _ _ _:=fr;obtain⟨aw,fw,rfl,ow,nw,bw,ew⟩:=fr.a1;have hdis:(fpL++fw).Nodup:=iG ndL nw (fun c hc=>hoL.lt c hc) bw;replace hoL:=hoL.ext ew;have hx1:=hxL.trans ew;have oo:=ow;simp only[aF.cd,jv,jy,j6,oF,nF]at oo;obtain⟨_,_,_,_,rfl,_,⟨rfl,rfl⟩,⟨_,_,_,_,rfl,_,⟨rfl,rfl⟩,⟨az2,_,_,_,rfl,_,uz2,⟨_,_,_,_,rfl,_,⟨rfl,rfl⟩,⟨az4,_,_,_,rfl,_,uz4,⟨_,_,_,_,rfl,_,⟨rfl,rfl⟩,⟨az6,_,_,_,rfl,_,uz6,⟨rfl,_⟩⟩⟩⟩⟩⟩⟩⟩:=oo;obtain⟨cz2a,cz2b,cz2c,cz2d⟩:=uz2.cell;obtain⟨cz4a,cz4b,cz4c,cz4d⟩:=uz4.cell;obtain⟨cz6a,cz6b,cz6c,cz6d⟩:=uz6.cell;obtain⟨v',H',fp',ea,o',nd',hf',hl',hm'⟩:=df (bytes:=104) hoL hdis (by omega) rfl ow (by simp only[Aaf,Aaj,aU];omega);obtain⟨j1,j2,j3,j4⟩:=o'.cell;simp only[au,Aaa,Aab,qA,jG,jK,jN,jM,hU,ia,hQ,ie,EA,cK,ER,cz2a,cz2b,cz2c,cz4a,cz4b,cz4c,cz6a,cz6b,cz6c,r2,rl,k1L,k2L,k3L,ea,j1,j2,j3,s2 _ _ _ _ j2];have hl9:=hxL.len;have hl8:=hx1.len;have hb':∀c∈fp',HE.length≤c:=fun c hc=>by
    rcases hm' c hc with g|g|g
    ·exact hfpL c g
    ·have:=bw c g;omega
    ·omega
   refine⟨(by first|exact ew.mem _ _ _|exact gh (ew.mem _ _ _)),?_⟩;exact⟨(k+1,v',H',fp',_),⟨hlt,by simp only;rw[Aag hlt,Aah,hxe];exact o',nd',hb',hx1.CZ hl' hf' hfpL,nZ (ju hM0L _) (by simp),⟨zzL,nZ (ju hM1L _) (by simp),hzzL⟩,mO (ju hM2L _)⟩,by simp only;omega,⟨by rw[wN (by omega)];simp[Ey,gW,gM],rfl,rfl⟩⟩
  have hge:k=v.aq.length:=by simp at hge;omega
  subst hge;rw[Aak]at hoL;simp only[au,Aaa,Aab,qA,jG,jK,jN,jM,hU,ia,hQ,ie,show ∀(e:List AV) (h:AH) (off n:Nat),(St.mk e ML h).cells (.lp ([]:List (List AV)).length off) n=sub (v.c β) off n from fun e h off n=>de hM0L,show ∀(e:List AV) (h:AH) (off n:Nat),(St.mk e ML h).cells (.lp (([]:List (List AV)).length+2) off) n=sub [AV.int .i64 v.id,wE,w1,wL,.nils] off n from fun e h off n=>de hM2L,ar.c,L0,L1,L2,ER,cK];refine fD aG mixed [] (fun y:Nat×AV×AH×List Nat×List (List AV)=>y.1≤v.out.length∧b9 y.2.2.1 y.2.1 (.sl 13 ((v.out.take y.1).map aY.cd)) y.2.2.2.1∧y.2.2.2.1.Nodup∧(∀c∈y.2.2.2.1,HL.length≤c)∧cQ HL y.2.2.1∧y.2.2.2.2[([]:List (List AV)).length]? = some (v.c β)∧(∃zzO,y.2.2.2.2[([]:List (List AV)).length+1]? = some zzO∧zzO.length=5)∧y.2.2.2.2[([]:List (List AV)).length+2]? = some [AV.int .i64 v.id,wE,w1,wL,y.2.1]) (fun y=>v.out.length-y.1)
   (fun y=>ED (.lp (([]:List (List AV)).length+1) 0) (.lp (([]:List (List AV)).length+2) 0) (.vs β 13 false (v.out.map (aY.c β))) (.int .i64 v.out.length) (.int .i64 y.1) y.2.2.2.2 y.2.2.1) (0,.nils,HL,[],_) ⟨by simp,.nil _,by simp,by simp,cQ.refl _,hM0L,⟨zzL,hM1L,hzzL⟩,hM2L⟩ ⟨by simp[ED,gW,gM],rfl,rfl⟩ ?_
  rintro⟨k,wO,HO,fpO,MO⟩ ⟨hk,hoO,ndO,hfpO,hxO,hM0O,⟨zzO,hM1O,hzzO⟩,hM2O⟩;simp only at hk hoO ndO hfpO hxO hM0O hM1O hM2O;have hMlO:([]:List (List AV)).length+2<MO.length:=aL hM2O;obtain⟨k1O,k2O,k3O,k4O⟩:=hoO.cell;simp only[au,Aaa,Aab,qA,jG,jK,jN,jM,hU,ia,hQ,ie,ED];refine bz (fun hlt=>?_) (fun hge=>?_)
  ·have hlt:k<v.out.length:=by simpa using hlt
   have i0:=fI (β:=β) (sz:=13) (ex:=false) (ce:=aY.c β) hlt;have he:=hv8 _ (Aae hlt);generalize hxe:v.out[k]=x at *;have r2:∀(z:List AV) (e:List AV) (h:AH) (off n:Nat),(St.mk e (MO++[z]) h).cells (.lp (([]:List (List AV)).length+2) off) n=sub [AV.int .i64 v.id,wE,w1,wL,wO] off n:=fun z e h off n=>de (ju hM2O _);have rl:∀(z:List AV) (e:List AV) (h:AH) (off n:Nat),(St.mk e (MO++[z]) h).cells (.lp MO.length off) n=sub z off n:=fun z e h off n=>de (xT _ _);have s2:∀(z:List AV) (e:List AV) (h:AH) (a:AV),cn a=true→(St.mk e (MO++[z]) h).store (.lp (([]:List (List AV)).length+2) 4) [a]=some ⟨e,(MO++[z]).set (([]:List (List AV)).length+2) (c8 [AV.int .i64 v.id,wE,w1,wL,wO] 4 [a]),h⟩:=fun z e h a ha=>tR (ju hM2O _) (by simp) ha;simp only[au,Aaa,Aab,qA,jG,jK,jN,jM,hU,ia,hQ,ie,i0,aY.c,cK,r2,rl,k1O,k2O,k3O];refine al.ref (by simp only[EO]) (Yy β x.message he _) ?_;rintro _ Hc fr;replace fr:aX HO _ _ _:=fr;obtain⟨aw,fw,rfl,ow,nw,bw,ew⟩:=fr.a1;have hdis:(fpO++fw).Nodup:=iG ndO nw (fun c hc=>hoO.lt c hc) bw;replace hoO:=hoO.ext ew;have hx1:=hxO.trans ew;have oo:=ow;simp only[ah.cd,jv,jy,j6,oF,nF]at oo;obtain⟨_,_,_,_,rfl,_,⟨rfl,rfl⟩,⟨_,_,_,_,rfl,_,⟨rfl,rfl⟩,⟨_,_,_,_,rfl,_,⟨rfl,rfl⟩,⟨_,_,_,_,rfl,_,⟨rfl,rfl⟩,⟨_,_,_,_,rfl,_,⟨rfl,rfl⟩,⟨az5,_,_,_,rfl,_,uz5,⟨_,_,_,_,rfl,_,⟨rfl,rfl⟩,⟨_,_,_,_,rfl,_,⟨rfl,rfl⟩,⟨_,_,_,_,rfl,_,⟨rfl,rfl⟩,⟨_,_,_,_,rfl,_,⟨rfl,rfl⟩,⟨_,_,_,_,rfl,_,⟨rfl,rfl⟩,⟨_,_,_,_,rfl,_,⟨rfl,rfl⟩,⟨rfl,_⟩⟩⟩⟩⟩⟩⟩⟩⟩⟩⟩⟩⟩:=oo;obtain⟨cz5a,cz5b,cz5c,cz5d⟩:=uz5.cell;obtain⟨v',H',fp',ea,o',nd',hf',hl',hm'⟩:=df (bytes:=128) hoO hdis (by omega) rfl (aM.i (k:=.i64) (n:=x.to_) ow) (by simp only[Aaf,Aaj,aU];omega);obtain⟨j1,j2,j3,j4⟩:=o'.cell;simp only[au,Aaa,Aab,qA,jG,jK,jN,jM,hU,ia,hQ,ie,EA,cK,ER,cz5a,cz5b,cz5c,r2,rl,k1O,k2O,k3O,ea,j1,j2,j3,s2 _ _ _ _ j2];have hl9:=hxO.len;have hl8:=hx1.len;have hb':∀c∈fp',HL.length≤c:=fun c hc=>by
    rcases hm' c hc with g|g|g
    ·exact hfpO c g
    ·have:=bw c g;omega
    ·omega
   refine⟨(by first|exact ew.mem _ _ _|exact gh (ew.mem _ _ _)),?_⟩;exact⟨(k+1,v',H',fp',_),⟨hlt,by simp only;rw[Aag hlt,Aah,hxe];exact o',nd',hb',hx1.CZ hl' hf' hfpO,nZ (ju hM0O _) (by simp),⟨zzO,nZ (ju hM1O _) (by simp),hzzO⟩,mO (ju hM2O _)⟩,by simp only;omega,⟨by rw[wN (by omega)];simp[ED,gW,gM],rfl,rfl⟩⟩
  have hge:k=v.out.length:=by simp at hge;omega
  subst hge;rw[Aak]at hoO;simp only[au,Aaa,Aab,qA,jG,jK,jN,jM,hU,ia,hQ,ie,show ∀(e:List AV) (h:AH) (off n:Nat),(St.mk e MO h).cells (.lp (([]:List (List AV)).length+2) off) n=sub [AV.int .i64 v.id,wE,w1,wL,wO] off n from fun e h off n=>de hM2O,show ∀(e:List AV) (h:AH),(St.mk e MO h).store (.lp (([]:List (List AV)).length+1) 0) [AV.int .i64 v.id,wE,w1,wL,wO]=some ⟨e,MO.set (([]:List (List AV)).length+1) [AV.int .i64 v.id,wE,w1,wL,wO],h⟩ from fun e h=>pP hM1O (by rw[hzzO];rfl) (by simp[MS,k2E,a2,k2L,k2O]),show ∀(e:List AV) (h:AH) (off n:Nat),(St.mk e (MO.set (([]:List (List AV)).length+1) [AV.int .i64 v.id,wE,w1,wL,wO]) h).cells (.lp (([]:List (List AV)).length+1) off) n=sub [AV.int .i64 v.id,wE,w1,wL,wO] off n from fun e h off n=>de (mO hM1O),ER,cK];have z1:=((o1.ext hxE).ext hxL).ext hxO;have zE:=(hoE.ext hxL).ext hxO;have zL:=hoL.ext hxO;have y1:=e1.len;have yE:=hxE.len;have yL:=hxL.len;have hE2:∀c∈fpE,c<HE.length:=fun c hc=>hoE.lt c hc;have hL2:∀c∈fpL,c<HL.length:=fun c hc=>hoL.lt c hc;have h12:∀c∈f1,c<H1.length:=fun c hc=>o1.lt c hc;obtain⟨N,hN⟩:=(((e1.trans hxE).trans hxL).trans hxO).out;refine⟨by simp[cY,gq,a2,a3,a4,k2E,k3E,k4E,k2L,k3L,k4L,k2O,k3O,k4O,uJ,vt,xp],_,N,fpE++(f1++(fpL++(fpO++[]))),rfl,hN,.i (.o zE (.o z1 (.o zL (.o hoO .nil)))),?_,fun c hc=>?_⟩
  ·rw[Aan];refine Aac.2 ⟨ndE,Aac.2 ⟨n1,Aac.2 ⟨ndL,ndO,fun x hx y hy=>?_⟩,fun x hx y hy=>?_⟩,fun x hx y hy=>?_⟩
   ·have:=hL2 x hx;have:=hfpO y hy;omega
   ·have:=h12 x hx;rcases Aad.1 hy with g|g
    ·have:=hfpL y g;omega
    ·have:=hfpO y g;omega
   ·have:=hE2 x hx;have:=hfpE x hx;rcases Aad.1 hy with g|g
    ·have:=h12 y g;omega
    ·rcases Aad.1 g with g|g
     ·have:=hfpL y g;omega
     ·have:=hfpO y g;omega
  ·simp only[Aan,Aad]at hc;rcases hc with g|g|g|g
   ·have:=hfpE c g;omega
   ·have:=b1 c g;omega
   ·have:=hfpL c g;omega
   ·have:=hfpO c g;omega)
end Go.Proofs.YtolciaflplefcaaGreat
