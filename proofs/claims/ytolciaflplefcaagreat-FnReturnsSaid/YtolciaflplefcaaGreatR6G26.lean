import Derived.Test.YtolciaflplefcaaGreatR6G23
import Derived.Test.YtolciaflplefcaaGreatR3RC
set_option linter.unusedVariables false
set_option linter.unusedSimpArgs false
open Nat renaming reduceAdd→Aaa,reduceBEq→Aab,zero_le→Aaq,le_refl→Aar
open List renaming nodup_append→Aac,mem_append→Aad,length_map→Aae,take_succ_eq_append_getElem→Aaf,mem_append_right→Aag,not_mem_nil→Aah,getElem_mem→Aai,map_append→Aaj,mem_cons→Aal,foldl_append→Aam,append_assoc→Aan,take_length→Aap
open Bool renaming and_eq_true_iff→Aak,and_eq_true→Aao
namespace Go.Proofs.YtolciaflplefcaaGreat
open Go.AM
variable {Γ:bG}
def JQ:C:=(.seq (.regD zY zu) (.seq (.regD ze zK) (.seq (.seq (.reg [mV 69 8,mN 70 69,mK 71 0]) (.block 0 (.loop (.seq (.reg [mB 72 .lss 71 70]) (.seq (.cond (.t 72) .skip (.exit 0)) (.seq (.block 1 (.seq (.reg [mX 73 7 69 71,mG 74 7 73,⟨(some 11),none,.alloc [.int .i64 0,.str ⟨#[]⟩,.nils,.int .i64 0,.int .i64 0,.int .i64 0,.int .i64 0]⟩,mS 7 11 74]) (.reg [mV 75 0,mG 76 7 11,mC 77 Fn.kaN [.t 75,.t 76]]))) (.reg [mI 78 .add 71 1,mV 71 78]))))))) (.seq (.reg [mV 79 9,mN 80 79,mK 81 0]) (.block 2 (.loop (.seq (.reg [mB 82 .lss 81 80]) (.seq (.cond (.t 82) .skip (.exit 2)) (.seq (.block 3 (.seq (.reg [mX 83 2 79 81,mG 84 2 83,⟨(some 13),none,.alloc [.int .i64 0,.int .i64 0]⟩,mS 2 13 84]) (.seq (.seq (.reg [mV 85 0,mV 86 0,mG 87 2 7,mC 88 Fn.Uh [.t 86,.t 87],mC 89 Fn.Ue [.t 85,.t 88],mV 14 89]) (.seq (.reg [mV 90 14,⟨(some 91),none,.bin .neq (.nilp) (.t 90) (.c (.nilp))⟩]) (.cond (.t 91) (.seq (.regD zo Ab) (.exit 3)) .skip))) (.regD Ad zT)))) (.reg [mI 114 .add 81 1,mV 81 114]))))))))))
def JN:C:=(.seq (.regD zy Ac) (.cond (.t 37) (.reg [mC 38 Fn.kaa [],mS 2 7 38]) .skip))
theorem Tz:OF=.seq (.reg [mA 5 2]) (.seq (.reg [mV 15 0,mV 16 1,mC 17 Fn.Ug [.t 16],mC 18 Fn.Ue [.t 15,.t 17],mV 6 18]) (.seq (.seq (.reg [mV 19 6,⟨(some 20),none,.bin .eql (.nilp) (.t 19) (.c (.nilp))⟩]) (.cond (.t 20) .ret .skip)) (.seq (.reg [mV 21 0,mG 22 2 5,mC 23 Fn.Uh [.t 21,.t 22],⟨(some 7),none,.alloc [.int .i64 0,.int .i64 0]⟩,mS 2 7 23]) (.seq (JN) (JQ))))):=rfl
set_option maxHeartbeats 8000000 in
set_option maxRecDepth 100000 in
theorem R5{n:Nat}(hD:CH Γ n)(v:ar)(q:List aK)(p:Int)(x:an)(hmu:mJ v≤n)(hvi:VI v)(hki:KI v)(hrq:RQ q v)(hw:wV v≤500000)(H:AH){b:Nat}{f:List Nat}(a:jr H b v f):
 T Tryz.prog Γ Fn.ka4 [.gp b 0 0,.int .i64 p,.agg (x.c false)] H fun r H'=>r=.tup []∧e9 H b (fun c=>c∈f) H' (dD (aT n) v p x):=by
 have hE:v.entities.length≤1048576:=by have:=hvi.fH;omega
 obtain⟨wE,w2,wL,w4,fE,f2,fL,f4,rfl,o⟩:=a;have hb:=o.hb;have blt:=o.blt;have vlt:=o.lt;have cb:=VO.Cp hb;obtain⟨a1,a2,a3,a4⟩:=o.oE.cell;obtain⟨_,lE⟩:=dc o.oE;rw[Aae]at lE;refine ka4_e (aC aG mixed [] _ _ _ ?_);rw[Tz];simp only[au,Aaa,Aab,kh,dI,dL,dO,dJ,dC,bC,an.c];refine al.val (by simp only[EO]) (BS _ _) ?_;simp only[au,Aaa,Aab,kh,dI,dL,dO,dJ,dC,bC];refine al.ref (by simp only[EO,an.c]) (SD hE false ⟨1,p⟩ o) ?_;rintro r h' ⟨⟨e1,i1⟩|⟨e1,rfl⟩,e⟩;rotate_left
 ·replace e:h'=H:=e;subst e;rw[Db]at e1;have nf:dD (aT n) v p x=v:=by rw[dD,if_neg (by rw[e1];simp)]
  rw[nf];simp only[au,Aaa,Aab,kh,dI,dL,dO,dJ,dC,bC];have fin:e9 h' b (fun c=>c∈dh fE f2 fL f4) h' v:=e9.refl o.at fun c hc=>hc;first|exact⟨rfl,rfl,fin⟩|exact⟨rfl,fin⟩|trace_state
 replace e:h'=H:=e;subst e;rw[Db]at e1;have e1':=e1;simp only[pd,Aao]at e1';obtain⟨k,hk,ek,ek2,eA⟩:=cL e1'.1;obtain⟨r0,hr⟩:∃r0,r0=aD v p:=⟨_,rfl⟩
 rw[←hr]at eA;obtain⟨bR,gR,pre,row,post,fR,iR,mR,lR,oR,nR,sR,bmR,bnR,wr⟩:=o.ph hk;have i1':fh 12 wE p=some r:=i1;rw[←ek,i1']at iR;injection iR with iR
 subst iR;rw[←eA]at oR;obtain⟨wS,wQ,wA,fS,fQ,fA,rfl,rfl,oS,oQ,oA⟩:=c5 oR;obtain⟨x1,x2,x3,x4⟩:=oS.cell;obtain⟨x5,x6,x7,x8⟩:=oQ.cell;obtain⟨x9,xa,xb,xc⟩:=oA.cell;obtain⟨_,lQ⟩:=dc oQ;obtain⟨_,lA⟩:=dc oA;rw[Aae]at lQ lA;have cR:∀(e:List AV) (L:List (List AV)) (i n:Nat),i+n≤12→(St.mk e L h').cells (.gp bR gR (pre.length+i)) n=sub _ i n:=fun e L i n hi=>mR.cells e L i n hi;have r6:∀(e:List AV) (L:List (List AV)),(St.mk e L h').cells (.gp bR gR (pre.length+6)) 1=some [wQ]:=fun e L=>cR e L 6 1 (by omega);have r7:∀(e:List AV) (L:List (List AV)),(St.mk e L h').cells (.gp bR gR (pre.length+7)) 1=some [wA]:=fun e L=>cR e L 7 1 (by omega);obtain⟨y0,hy0⟩:∃y0,y0=cO v x:=⟨_,rfl⟩
 obtain⟨y,hy⟩:∃y,y=vC v p x:=⟨_,rfl⟩
 have yf:dD (aT n) v p x=r0.askers.foldl (bF y) (r0.queue.foldl (aT n) (ky v p x)):=by rw[dD,if_pos e1,←hr,←hy]
 rw[yf];simp only[au,Aaa,Aab,kh,dI,dL,dO,dJ,dC,bC,an.c];refine al.fk (by simp only[EO]) (aI (tr o) (aI (.same _) aZ)) (fun h=>F4 true v hE x h (Ptr.ip h true _)) (.agg _ (by intro z hz;simp only[an.c,Aal,Aah,or_false]at hz;rcases hz with rfl|rfl<;>exact .int _ _)) ?_;rw[←hy0];simp only[au,Aaa,Aab,kh,dI,dL,dO,dJ,dC,bC,an.c];have eqV:∀x y:an,fg .eql (.agg [.int .i64,.int .i64]) (.agg [.int .i64 x.kind,.int .i64 x.n]) (.agg [.int .i64 y.kind,.int .i64 y.n])=some (.bool (decide (x=y))):=fun x y=>by rw[dV];simp only[an.dec]
 have eqP:∀(x:an),fg .eql (.agg [.int .i64,.int .i64]) (.agg [.int .i64 x.kind,.int .i64 x.n]) (.agg [.int .i64 1,.int .i64 p])=some (.bool (decide (x=⟨1,p⟩))):=fun x=>eqV x ⟨1,p⟩;have ey:y=if (nB y0 v.entities.length && !decide (y0=⟨1,p⟩))=true then y0 else bd:=by rw[hy,vC,hy0]
 obtain⟨R2,hR2⟩:∃R:St→Prop,R=fun zst=>∃g:Nat→AV,zst=⟨(List.range 115).map g,([]:List (List AV))++[[.int .i64 x.kind,.int .i64 x.n]]++[[.int .i64 y.kind,.int .i64 y.n]],h'⟩∧(g 0=.gp b 0 0∧g 1=.int .i64 p∧g 6=.gp bR gR pre.length∧g 7=(.lp (([]:List (List AV)).length+1) 0)):=⟨_,rfl⟩
 refine Iu R2 ?_ ?_
 ·unfold JN;cases u1:nB y0 v.entities.length
  ·have ey':y=bd:=by rw[ey,u1];rfl
   simp only[au,Aaa,Aab,kh,dI,dL,dO,dJ,dC,bC,an.c,cb,a1,a2,a3,lE,jt];refine al.val (by simp only[EO]) (Mx false y0 _ hE _) ?_;rw[u1];simp only[au,Aaa,Aab,kh,dI,dL,dO,dJ,dC,bC,an.c,cb,a1,a2,a3,lE,jt];refine al.val (by simp only[EO]) (yy _) ?_;simp only[au,Aaa,Aab,kh,dI,dL,dO,dJ,dC,bC,an.c,bd,jt];rw[ey',bd]at hR2
   (rw[hR2];exact⟨qv _,rA rfl,⟨rfl,rfl,rfl,rfl⟩⟩)
  ·by_cases u2:y0=⟨1,p⟩
   ·have ey':y=bd:=by rw[ey,u1,aR u2];rfl
    simp only[au,Aaa,Aab,kh,dI,dL,dO,dJ,dC,bC,an.c,cb,a1,a2,a3,lE,jt];refine al.val (by simp only[EO]) (Mx false y0 _ hE _) ?_;rw[u1];simp only[au,Aaa,Aab,kh,dI,dL,dO,dJ,dC,bC,an.c,cb,a1,a2,a3,lE,jt];refine al.val (by simp only[EO]) (BS _ _) ?_;simp only[au,Aaa,Aab,kh,dI,dL,dO,dJ,dC,bC,an.c,eqP,aR u2,jt];refine al.val (by simp only[EO]) (yy _) ?_;simp only[au,Aaa,Aab,kh,dI,dL,dO,dJ,dC,bC,an.c,bd,jt];rw[ey',bd]at hR2
    (rw[hR2];exact⟨qv _,rA rfl,⟨rfl,rfl,rfl,rfl⟩⟩)
   ·have ey':y=y0:=by rw[ey,u1,aW u2];rfl
    simp only[au,Aaa,Aab,kh,dI,dL,dO,dJ,dC,bC,an.c,cb,a1,a2,a3,lE,jt];refine al.val (by simp only[EO]) (Mx false y0 _ hE _) ?_;rw[u1];simp only[au,Aaa,Aab,kh,dI,dL,dO,dJ,dC,bC,an.c,cb,a1,a2,a3,lE,jt];refine al.val (by simp only[EO]) (BS _ _) ?_;simp only[au,Aaa,Aab,kh,dI,dL,dO,dJ,dC,bC,an.c,eqP,aW u2,jt];rw[ey']at hR2
    (rw[hR2];exact⟨qv _,rA rfl,⟨rfl,rfl,rfl,rfl⟩⟩)
 intro zst hzst;rw[hR2]at hzst;clear hR2;obtain⟨g,rfl,⟨eg0,eg1,eg6,eg7⟩⟩:=hzst;rw[show(List.range 115).map g=g 0::g 1::g 2::g 3::g 4::g 5::g 6::g 7::g 8::g 9::g 10::g 11::g 12::g 13::g 14::g 15::g 16::g 17::g 18::g 19::g 20::g 21::g 22::g 23::g 24::g 25::g 26::g 27::g 28::g 29::g 30::g 31::g 32::g 33::g 34::g 35::g 36::g 37::g 38::g 39::g 40::g 41::g 42::g 43::g 44::g 45::g 46::g 47::g 48::g 49::g 50::g 51::g 52::g 53::g 54::g 55::g 56::g 57::g 58::g 59::g 60::g 61::g 62::g 63::g 64::g 65::g 66::g 67::g 68::g 69::g 70::g 71::g 72::g 73::g 74::g 75::g 76::g 77::g 78::g 79::g 80::g 81::g 82::g 83::g 84::g 85::g 86::g 87::g 88::g 89::g 90::g 91::g 92::g 93::g 94::g 95::g 96::g 97::g 98::g 99::g 100::g 101::g 102::g 103::g 104::g 105::g 106::g 107::g 108::g 109::g 110::g 111::g 112::g 113::g 114::[] from rfl];simp only[eg0,eg1,eg6,eg7];unfold JQ;have nX:∀w:AV,bM w=true→[w].all bM=true:=fun w h=>by simp only[List.all_cons,List.all_nil,h];rfl
 obtain⟨H1,s1,m1,l1,f1⟩:=mR.put 3 [.int .i64 2] (by simp) rfl;obtain⟨H2,s2,m2,l2,f2'⟩:=m1.put 4 [.int .i64 y.kind,.int .i64 y.n] (by simp[c8]) rfl;obtain⟨H3,s3,m3,l3,f3⟩:=m2.put 6 [.nils] (by simp[c8]) rfl;obtain⟨H4,s4,m4,l4,f4'⟩:=m3.put 7 [.nils] (by simp[c8]) rfl;obtain⟨H5,s5,m5,l5,f5⟩:=m4.put 8 [.int .i64 0] (by simp[c8]) rfl;obtain⟨H6,s6,m6,l6,f6⟩:=m5.put 9 [.int .i64 0] (by simp[c8]) rfl;obtain⟨H7,s7,m7,l7,f7⟩:=m6.put 10 [.int .i64 0] (by simp[c8]) rfl;replace m7:pj H7 bR gR pre [.int .i64 r0.kind,.int .i64 r0.script,wS,.int .i64 2,.int .i64 y.kind,.int .i64 y.n,.nils,.nils,.int .i64 0,.int .i64 0,.int .i64 0,.int .i64 r0.sent] post:=m7;have fr7:∀c,c≠bR→H7[c]? = h'[c]?:=fun c hc=>by rw[f7 c hc,f6 c hc,f5 c hc,f4' c hc,f3 c hc,f2' c hc,f1 c hc]
 have own7:aM H7 [.int .i64 r0.kind,.int .i64 r0.script,wS,.int .i64 2,.int .i64 y.kind,.int .i64 y.n,.nils,.nils,.int .i64 0,.int .i64 0,.int .i64 0,.int .i64 r0.sent] (lJ r0 y).cd (fS++([]++[])):=jo (e:=lJ r0 y) (oS.frame fun c hc=>fr7 c (fun e=>bnR (e▸(by simp[hc])))) (.nil 7) (.nil 2);obtain⟨fE7,o7,me7⟩:=wr H7 _ (lJ r0 y) (fS++([]++[])) [] (by omega) (fun c hc=>by cases hc) m7 own7 (by
  have:=(Aac.1 nR).1;simpa using this) (fun c hc=>.inl (by
   have:c∈fS:=by simpa using hc
   simp[this])) (fun c _ _ _ h=>fr7 c h)
 have ev:({ v with entities:=v.entities.set k (lJ r0 y) }:ar)=ky v p x:=by rw[ky,cT,←hr,←hy,ek2]
 rw[ev]at o7;obtain⟨nS,nQA,dS⟩:=Aac.1 nR;obtain⟨nQ,nA,dQ⟩:=Aac.1 nQA;have sub7:∀c∈dh fE7 f2 fL f4,c∈dh fE f2 fL f4:=fun c hc=>by
  rcases aO.1 hc with g|g|g|g
  ·rcases me7 c g with q|q
   ·exact aO.2 (.inl q.1)
   ·exact aO.2 (.inl (sR c (by
     have:c∈fS:=by simpa using q
     simp[this])))
  ·exact aO.2 (.inr (.inl g))
  ·exact aO.2 (.inr (.inr (.inl g)))
  ·exact aO.2 (.inr (.inr (.inr g)))
 have fQ7:∀c∈fQ++fA,c∉dh fE7 f2 fL f4∧c≠b∧c<h'.length∧c∈fE:=fun c hc=>by
  have cR:c∈fS++(fQ++fA):=Aag _ hc;have cE:c∈fE:=sR c cR;refine⟨fun h=>?_,fun e=>o.bE (e▸cE),vlt c (aO.2 (.inl cE)),cE⟩;rcases aO.1 h with g|g|g|g
  ·rcases me7 c g with q|q
   ·exact q.2 cR
   ·exact dS c (by simpa using q) c hc rfl
  ·exact o.dE2 c cE g
  ·exact o.dEL c cE g
  ·exact o.dE4 c cE g
 have fq7:∀c∈fQ++fA,H7[c]? = h'[c]?:=fun c hc=>fr7 c (fun e=>bnR (e▸Aag _ hc));have oq7:b9 H7 wQ (.sl 7 (r0.queue.map aK.cd)) fQ:=oQ.frame fun c hc=>fq7 c (by simp[hc]);have oa7:b9 H7 wA (.sl 2 (r0.askers.map cj.cd)) fA:=oA.frame fun c hc=>fq7 c (by simp[hc]);obtain⟨ptr,rws,fpr,qb,hrows⟩:=oq7.rows nQ;obtain⟨k1,k2,k3,k4⟩:=zS e1 x;rw[←hr]at k2;have k2':oq r0=sM r0.queue+2*r0.askers.length:=rfl;have viK:=k4 hvi;have kiK:KI (ky v p x):=by unfold KI at hki ⊢;unfold ky;rw[kt _ _ (lJ _ _) rfl];exact hki
 have rqK:RQ (r0.queue++q) (ky v p x):=by rw[hr];exact hrq.kept e1'.1 x
 have hq100:∀x∈r0.queue,x.ok 100:=by rw[hr];exact(gZ hvi p).2
 obtain⟨F,hF⟩:∃F:Nat→Prop,F=fun c=>c∈dh fE f2 fL f4:=⟨_,rfl⟩
 have FE:∀c∈fE,F c:=fun c hc=>by rw[hF];exact aO.2 (.inl hc)
 have f7F:∀c∈dh fE7 f2 fL f4,F c∨h'.length≤c:=fun c hc=>by rw[hF];exact .inl (sub7 c hc)
 have r7F:∀c,¬F c→c≠b→c<h'.length→H7[c]? = h'[c]?:=fun c h1 h2 h3=>fr7 c (fun e=>h1 (FE c (e▸bmR)));have l7':h'.length≤H7.length:=by omega
 simp only[au,Aaa,Aab,kh,dI,dL,dO,dJ,dC,bN,r6,r7,x5,x6,x7,x9,xa,xb,s1,s2,s3,s4,s5,s6,s7,lQ,lA];refine⟨fun r hr n cs hc=>by rw[show r=7 by simpa using hr]at hc ⊢;exact hc,?_⟩;refine fD aG mixed [] (fun z:Nat×AH×List Nat×List (List AV)=>z.1≤r0.queue.length∧jr z.2.1 b ((r0.queue.take z.1).foldl (aT n) (ky v p x)) z.2.2.1∧h'.length≤z.2.1.length∧(∀c∈z.2.2.1,F c∨h'.length≤c)∧(∀c,¬F c→c≠b→c<h'.length→z.2.1[c]? = h'[c]?)∧(∀c∈fQ++fA,(c∈fA∨c=qb∨∃j,z.1≤j∧j<r0.queue.length∧c∈fpr j)→z.2.1[c]? = H7[c]?∧c∉z.2.2.1)∧∃l0 E,z.2.2.2=([]:List (List AV))++[l0,[.int .i64 y.kind,.int .i64 y.n]]++E) (fun z=>r0.queue.length-z.1)
  (fun z=>D7 (.gp b 0 0) (.lp (([]:List (List AV)).length+1) 0) wA wQ (.int .i64 (r0.queue.length:Nat)) (.int .i64 z.1) z.2.2.2 z.2.1) (0,H7,dh fE7 f2 fL f4,_) ⟨Aaq _,o7.at,l7',f7F,r7F,fun c hc _=>⟨rfl,(fQ7 c hc).1⟩,_,[],rfl⟩ ⟨by simp[D7,gW,gM],rfl,rfl⟩ ?_
 rintro⟨i,Hi,fi,Li⟩ ⟨hi,oi,li,mi,ri,qi,l0,E0,hL0⟩;simp only at hi oi li mi ri qi hL0;simp only[au,Aaa,Aab,kh,dI,dL,dO,dJ,dC,D7,bC];refine bz (fun hlt=>?_) (fun hge=>?_)
 ·have hlt:i<r0.queue.length:=by simpa using hlt
  obtain⟨p1,p2,p3,p4,p5,p6,p7⟩:=hrows i (by simpa using hlt);rw[List.getElem_map]at p3;obtain⟨wa',er,oa'⟩:=ku p3;have qbm:qb∈fQ++fA:=by simp[p6]
  have p5':∀c∈fpr i,c∈fQ++fA:=fun c hc=>by simp[(p5 c hc).1]
  have cR:∀(e:List AV) (L:List (List AV)),(St.mk e L Hi).cells (ptr i) 7=some (rws i):=fun e L=>p2 Hi e L (qi qb qbm (.inr (.inl rfl))).1;rw[er]at cR p3;have pi:aM Hi _ _ (fpr i):=p3.frame fun c hc=>(qi c (p5' c hc) (.inr (.inr ⟨i,Aar _,hlt,hc⟩))).1;obtain⟨t1,t2,t3,t4⟩:=oa'.cell;obtain⟨fk1,fk2,fk3,fk4⟩:=nj (gr n) (r0.queue.take i) (ky v p x);have wti:=vQ r0.queue i hlt;simp only[au,Aaa,Aab,kh,dI,dL,dO,dJ,dC,bN,p1,cR,t1,t2,t3];refine al.ref (by simp only[EO,t3,t4]) (hD _ r0.queue[i] (r0.queue.drop (i+1)++q) Hi b fi _ (fpr i) (by omega) (fk4 viK fun x hx=>hq100 x (List.mem_of_mem_take hx)) kiK.fold (En rqK hlt) (hq100 _ (Aai hlt)) (by omega) oi pi p4 (fun c hc=>⟨(qi c (p5' c hc) (.inr (.inr ⟨i,Aar _,hlt,hc⟩))).2,(fQ7 c (p5' c hc)).2.1⟩)) ?_;rintro _ H9 ⟨rfl,f9,o9,l9,m9,r9⟩;replace o9:jr H9 b _ f9:=o9;replace l9:Hi.length≤H9.length:=l9;replace r9:∀c,¬(c∈fi∨c∈fpr i)→c≠b→c<Hi.length→H9[c]? = Hi[c]?:=r9;simp only[au,Aaa,Aab,kh,dI,dL,dO,dJ,dC,bC];have ts:(r0.queue.take (i+1)).foldl (aT n) (ky v p x)=aT n ((r0.queue.take i).foldl (aT n) (ky v p x)) r0.queue[i]:=by
   rw[Aaf hlt,Aam];rfl
  refine⟨(i+1,H9,f9,_),⟨hlt,by simp only;rw[ts];exact o9,by simp only;omega,fun c hc=>?_,fun c h1 h2 h3=>?_,fun c hc hj=>?_,l0,_,by simp only;rw[hL0,Aan]⟩,by simp only;omega,⟨by rw[wN (by have:=(vV r0.queue);omega)];simp[D7,gW,gM],rfl,rfl⟩⟩
  ·rcases m9 c hc with(g|g)|g
   ·exact mi c g
   ·exact .inl (FE c (fQ7 c (p5' c g)).2.2.2)
   ·exact .inr (by omega)
  ·simp only;rw[r9 c (fun h=>by
    rcases h with g|g
    ·rcases mi c g with q|q
     ·exact h1 q
     ·omega
    ·exact h1 (FE c (fQ7 c (p5' c g)).2.2.2)) h2 (by omega),ri c h1 h2 h3]
  ·simp only at hj ⊢;have hj':c∈fA∨c=qb∨∃j,i≤j∧j<r0.queue.length∧c∈fpr j:=hj.imp id fun g=>g.imp id fun⟨j,a,b,c⟩=>⟨j,by omega,b,c⟩
   obtain⟨e1,e2⟩:=qi c hc hj';obtain⟨_,e3,e4,_⟩:=fQ7 c hc;have e5:c∉fpr i:=fun h=>by
    rcases hj with g|g|⟨j,g1,g2,g3⟩
    ·exact dQ c (p5 c h).1 c g rfl
    ·exact(p5 c h).2 g
    ·exact p7 j (by simpa using g2) (by omega) c h g3
   refine⟨by rw[r9 c (fun h=>h.elim e2 e5) e3 (by omega)];exact e1,fun h=>?_⟩;rcases m9 c h with(g|g)|g
   ·exact e2 g
   ·exact e5 g
   ·omega
 have hge:i=r0.queue.length:=by simp at hge;omega
 subst hge;rw[Aap]at oi;obtain⟨fk1,fk2,fk3,fk4⟩:=nj (gr n) r0.queue (ky v p x);have vi2:=fk4 viK hq100;obtain⟨v2,hv2⟩:∃v2,v2=r0.queue.foldl (aT n) (ky v p x):=⟨_,rfl⟩
 rw[←hv2]at oi fk1 fk2 fk3 vi2 ⊢;have ai:∀c∈fA,Hi[c]? = H7[c]?∧c∉fi:=fun c hc=>qi c (by simp[hc]) (.inl hc);clear fk4;simp only[au,Aaa,Aab,kh,dI,dL,dO,dJ,dC,bC,x9,xa,xb,lA];refine fD aG mixed [] (fun z:Nat×AH×List Nat×List (List AV)=>z.1≤r0.askers.length∧jr z.2.1 b ((r0.askers.take z.1).foldl (bF y) v2) z.2.2.1∧h'.length≤z.2.1.length∧(∀c∈z.2.2.1,F c∨h'.length≤c)∧(∀c,¬F c→c≠b→c<h'.length→z.2.1[c]? = h'[c]?)∧(∀c∈fA,z.2.1[c]? = H7[c]?∧c∉z.2.2.1)∧∃l0 E,z.2.2.2=([]:List (List AV))++[l0,[.int .i64 y.kind,.int .i64 y.n]]++E) (fun z=>r0.askers.length-z.1)
  (fun z=>Bm (.gp b 0 0) (.lp (([]:List (List AV)).length+1) 0) wA (.int .i64 (r0.askers.length:Nat)) (.int .i64 z.1) z.2.2.2 z.2.1) (0,Hi,fi,_) ⟨Aaq _,oi,li,mi,ri,ai,l0,E0,hL0⟩ ⟨by simp[Bm,gW,gM],rfl,rfl⟩ ?_
 clear ai ri mi li oi hi hL0;rintro⟨j,Hj,fj,L⟩ ⟨hj,aj,lj,mj,rj,qj,l0,E0,hLL⟩;simp only at hj aj lj mj rj qj hLL;have lp1:∀(e:List AV) (h:AH) (off n:Nat),(St.mk e L h).cells (.lp (([]:List (List AV)).length+1) off) n=sub [.int .i64 y.kind,.int .i64 y.n] off n:=fun e h off n=>by subst hLL;rfl
 have lp1':∀(e:List AV) (h:AH) (X:List (List AV)) (off n:Nat),(St.mk e (L++X) h).cells (.lp (([]:List (List AV)).length+1) off) n=sub [.int .i64 y.kind,.int .i64 y.n] off n:=fun e h X off n=>by subst hLL;rfl
 have hLX:∀X:List (List AV),∃l0 E,L++X=([]:List (List AV))++[l0,[.int .i64 y.kind,.int .i64 y.n]]++E:=fun X=>⟨l0,E0++X,by rw[hLL,Aan]⟩
 clear hLL;simp only[au,Aaa,Aab,kh,dI,dL,dO,dJ,dC,Bm,bC];refine bz (fun hlt=>?_) (fun hge=>?_);rotate_left
 ·have hge:j=r0.askers.length:=by simp at hge;omega
  subst hge;rw[Aap]at aj;simp only[au,Aaa,Aab,kh,dI,dL,dO,dJ,dC,bC];have fin:e9 h' b (fun c=>c∈dh fE f2 fL f4) Hj (r0.askers.foldl (bF y) v2):=⟨fj,aj,lj,by rw[hF]at mj;exact mj,by rw[hF]at rj;exact rj⟩
  first|exact⟨rfl,rfl,fin⟩|exact⟨rfl,fin⟩|trace_state
 have hlt:j<r0.askers.length:=by simpa using hlt
 obtain⟨qa,ga,na,qm,i2,cA⟩:=Ib oa7 nA hlt;obtain⟨ak,hak⟩:∃ak,ak=r0.askers[j]:=⟨_,rfl⟩
 rw[←hak]at cA;have cA1:=fun e L=>(cA Hj e L (qj qa qm).1).1;obtain⟨vj,hvj⟩:∃vj,vj=(r0.askers.take j).foldl (bF y) v2:=⟨_,rfl⟩
 have ts:(r0.askers.take (j+1)).foldl (bF y) v2=bF y vj ak:=by
  rw[Aaf hlt,Aam,←hvj,hak];rfl
 obtain⟨ck1,ck2,ck3,ck4⟩:=wG y (r0.askers.take j) v2;rw[←hvj]at ck1 ck2 ck3 ck4 aj;rw[List.length_take,Nat.min_eq_left (by omega)]at ck2;have vij:=ck4 vi2;have hEj:vj.entities.length≤1048576:=by have:=vij.fH;omega
 have hLj:vj.aq.length≤1048576:=by have:=vij.aq;omega
 clear hvj ck1 ck3 ck4;obtain⟨wE',w2',wL',w4',fE',f2',fL',f4',rfl,oj⟩:=aj;have bltj:=oj.blt;have vltj:=oj.lt;obtain⟨z,hz⟩:∃z,z=cO vj y:=⟨_,rfl⟩
 simp only[au,Aaa,Aab,kh,dI,dL,dO,dJ,dC,bN,i2,cA1,lp1,lp1'];refine al.fk (by simp only[EO,an.c]) (aI (tr oj) (aI (.same _) aZ)) (fun h=>F4 true vj hEj y h (Ptr.ip h true _)) (.agg _ (by intro z hz;simp only[an.c,Aal,Aah,or_false]at hz;rcases hz with rfl|rfl<;>exact .int _ _)) ?_;rw[←hz];simp only[au,Aaa,Aab,kh,dI,dL,dO,dJ,dC,bN,an.c];refine al.ref (by simp only[EO,an.c]) (SD hEj false z oj) ?_;rintro rz hh ⟨⟨tz,iz⟩|⟨tz,rfl⟩,e⟩
 ·replace e:hh=Hj:=e;subst e;have hzI:bB z.n vj.entities.length=true:=by simp only[lM,Aao]at tz;exact tz.2.1
  obtain⟨k2,hk2,ez,ez2,eAz⟩:=cL hzI;obtain⟨e2,he2⟩:∃e2,e2=aD vj z.n:=⟨_,rfl⟩
  rw[←he2]at eAz;obtain⟨bS,gS,preS,rowS,postS,fT,iS,mS,lS,oT,nfT,sT,bmS,bnS,wrS⟩:=oj.ph hk2;have iz':fh 12 wE' z.n=some rz:=iz;rw[←ez,iz']at iS;injection iS with iS
  subst iS;rw[←eAz]at oT;obtain⟨wSS,wQQ,wAA,fS2,fQ2,fA2,rfl,rfl,oSS,oQQ,oAA⟩:=c5 oT;obtain⟨y9,ya,yb,yc⟩:=oAA.cell;obtain⟨nS2,nQA2,dS2⟩:=Aac.1 nfT;obtain⟨nQ2,nA2,dQ2⟩:=Aac.1 nQA2;have haskl:2*e2.askers.length≤oq e2:=by unfold oq;omega
  have hwe2:oq e2≤wV vj:=by rw[eAz];exact GS (Aai hk2)
  obtain⟨v',H8,fp',ea,o8,nd8,hf8,hl8,hm8⟩:=df (bytes:=16) oAA (ys:=[.int .i64 ak.peer,.int .i64 ak.question]) (row:=ak.cd) (f2:=[]) (by simpa using nA2) (by omega) rfl (.i (.i .nil)) (by simp only[Aae,aU];omega);obtain⟨p1,p2,p3,p4⟩:=o8.cell;have rd7:∀(e:List AV) (L:List (List AV)),(St.mk e L hh).cells (.gp bS gS (preS.length+7)) 1=some [wAA]:=fun e L=>mS.cells e L 7 1 (by simp);have ltj:∀c,c∈fS2++(fQ2++fA2)→c<hh.length:=fun c hc=>vltj c (aO.2 (.inl (sT c hc)));have kS:∀c∈fS2++fQ2,H8[c]? = hh[c]?:=fun c hc=>by
   refine hf8 c (fun h=>?_) (ltj c (by simp only[Aad]at hc ⊢;exact hc.elim .inl fun h=>.inr (.inl h)));rcases Aad.1 hc with q|q
   ·exact dS2 c q c (Aag _ h) rfl
   ·exact dQ2 c q c h rfl
  have bSA:bS∉fA2:=fun h=>bnS (by simp[h]);have bSlt:bS<hh.length:=vltj bS (aO.2 (.inl bmS));have mS8:=mS.frame (hf8 bS bSA bSlt);obtain⟨H9,s9,mS9,l9,r9⟩:=mS8.put 7 [v'] (by simp) (by simp only[je,jg,p3];rfl);replace mS9:pj H9 bS gS preS [.int .i64 e2.kind,.int .i64 e2.script,wSS,.int .i64 e2.state,.int .i64 e2.value.kind,.int .i64 e2.value.n,wQQ,v',.int .i64 e2.peer,.int .i64 e2.pos,.int .i64 e2.count,.int .i64 e2.sent] postS:=mS9;have bSf:bS∉fp':=fun h=>by
   rcases hm8 bS h with g|g|g
   ·exact bSA g
   ·cases g
   ·omega
  have own9:aM H9 _ (kV e2 ak).cd (fS2++(fQ2++fp')):=jo (e:=kV e2 ak) (oSS.frame fun c hc=>by rw[r9 c (fun e=>bnS (e▸(by simp[hc]))),kS c (by simp[hc])]) (oQQ.frame fun c hc=>by rw[r9 c (fun e=>bnS (e▸(by simp[hc]))),kS c (by simp[hc])]) (wA:=v') (fA:=fp') (by
   have:=o8.frame (h':=H9) fun c hc=>r9 c (fun e=>bSf (e▸hc));simp only[kV,Aaj];exact this)
  obtain⟨fE9,o9,me9⟩:=wrS H9 _ (kV e2 ak) (fS2++(fQ2++fp')) [] (by omega) (fun c hc=>by cases hc) mS9 own9
   (Aac.2 ⟨nS2,Aac.2 ⟨nQ2,nd8,fun x hx y hy e=>by
    subst e;rcases hm8 x hy with g|g|g
    ·exact dQ2 x hx x g rfl
    ·cases g
    ·have:=ltj x (by simp[hx]);omega⟩,fun x hx y hy e=>by
    subst e;rcases Aad.1 hy with q|q
    ·exact dS2 x hx x (by simp[q]) rfl
    ·rcases hm8 x q with g|g|g
     ·exact dS2 x hx x (by simp[g]) rfl
     ·cases g
     ·have:=ltj x (by simp[hx]);omega⟩)
   (fun c hc=>by
    simp only[Aad]at hc ⊢;rcases hc with g|g|g
    ·exact .inl (.inl g)
    ·exact .inl (.inr (.inl g))
    ·rcases hm8 c g with q|q|q
     ·exact .inl (.inr (.inr q))
     ·cases q
     ·exact .inr (.inr q)) (fun c hc hn _ hb=>by rw[r9 c hb,hf8 c (fun h=>hn (by simp[h])) hc])
  have as':bF y vj ak=cT vj z.n.toNat (kV (aD vj z.n) ak):=by rw[bF,←hz,if_pos tz]
  have ev9:({ vj with entities:=vj.entities.set k2 (kV e2 ak) }:ar)=bF y vj ak:=by rw[as',cT,ez2,he2]
  rw[ev9]at o9;have m9':∀c∈dh fE9 f2' fL' f4',c∈dh fE' f2' fL' f4'∨hh.length≤c:=fun c hc=>by
   rcases aO.1 hc with g|g|g|g
   ·rcases me9 c g with q|q
    ·exact .inl (aO.2 (.inl q.1))
    ·simp only[Aad]at q;rcases q with q|q|q
     ·exact .inl (aO.2 (.inl (sT c (by simp[q]))))
     ·exact .inl (aO.2 (.inl (sT c (by simp[q]))))
     ·rcases hm8 c q with q|q|q
      ·exact .inl (aO.2 (.inl (sT c (by simp[q]))))
      ·cases q
      ·exact .inr q
   ·exact .inl (aO.2 (.inr (.inl g)))
   ·exact .inl (aO.2 (.inr (.inr (.inl g))))
   ·exact .inl (aO.2 (.inr (.inr (.inr g))))
  have fEj:∀c∈fE',F c∨h'.length≤c:=fun c hc=>mj c (aO.2 (.inl hc));have r9':∀c,c∉fE'→c<hh.length→H9[c]? = hh[c]?:=fun c h1 h2=>by
   rw[r9 c (fun e=>h1 (e▸bmS)),hf8 c (fun h=>h1 (sT c (by simp[h]))) h2]
  simp only[au,Aaa,Aab,kh,dI,dL,dO,dJ,dC,bN,rd7,y9,ya,yb,ea,p1,p2,p3,s9];refine⟨(j+1,H9,dh fE9 f2' fL' f4',_),⟨hlt,by simp only;rw[ts];exact o9.at,by simp only;omega,fun c hc=>?_,fun c h1 h2 h3=>?_,fun c hc=>?_,hLX _⟩,by simp only;omega,⟨by rw[wN (by omega)];simp[Bm,gW,gM],rfl,rfl⟩⟩
  ·rcases m9' c hc with g|g
   ·exact mj c g
   ·exact .inr (by omega)
  ·simp only;rw[r9' c (fun h=>by rcases fEj c h with q|q;exact h1 q;omega) (by omega),rj c h1 h2 h3]
  ·simp only;obtain⟨q1,q2⟩:=qj c hc;obtain⟨_,q3,q4,_⟩:=fQ7 c (by simp[hc]);refine⟨by rw[r9' c (fun h=>q2 (aO.2 (.inl h))) (by omega),q1],fun h=>?_⟩;rcases m9' c h with g|g
   ·exact q2 g
   ·omega
 ·replace e:hh=Hj:=e;subst e;have as':bF y vj ak=e8 (bq vj ak.peer y).1 ak.peer (od ak.question (bq vj ak.peer y).2):=by rw[bF,←hz,if_neg (by rw[tz];simp),hz,Fg]
  obtain⟨w,hw'⟩:∃w,w=(bq vj ak.peer y).2:=⟨_,rfl⟩
  obtain⟨vw,hvw⟩:∃vw,vw=(bq vj ak.peer y).1:=⟨_,rfl⟩
  obtain⟨tk1,tk2,tk3,tk4⟩:=oB vj ak.peer y;rw[←hvw]at tk1 tk2 tk3 tk4 as';rw[←hw']at as';replace tk4:=tk4 vij;simp only[au,Aaa,Aab,kh,dI,dL,dO,dJ,dC,bN,lp1,lp1'];refine al.ref (by simp only[EO]) (Qg vj hEj hLj (fun l hl=>(vij.Cu l hl).mono (by omega)) ak.peer y hh oj) ?_;rintro _ H4 ⟨rfl,lu⟩;rw[←hw'];rw[←hvw]at lu;obtain⟨fL4,o4,l4,m4,r4⟩:=lu;refine⟨?_,?_⟩
  ·first|exact gI rfl|exact jZ (L':=[_]) rfl|(refine lG fun r hr=>?_;rcases(by simpa using hr:r=103∨r=105)with rfl|rfl<;>exact .inl ⟨_,_,rfl⟩)
  simp only[au,Aaa,Aab,kh,dI,dL,dO,dJ,dC,bN,aJ.c];have ovw:vw.out.length≤1048576:=by
   rw[tk3];have:vj.out.length≤wV vj:=by unfold wV;omega
   omega
  have omsg:aM H4 [.int .i64 2,.int .i64 0,.int .i64 0,.int .i64 ak.question,.str ⟨#[]⟩,.nils,.int .i64 w.kind,.int .i64 w.n,.int .i64 0,.int .i64 0,.int .i64 0,.int .i64 0] (od ak.question w).cd []:=
   .i (.i (.i (.i (.s (aM.o (f1:=[]) (b9.nil 2) (.i (.i (.i (.i (.i (.i .nil)))))))))))
  refine al.ref (by simp only[EO]) (Bq vw (by have:=tk4.aq;omega) ovw ak.peer (od ak.question w) H4 o4.at omsg (by simp) (fun c hc=>by cases hc)) ?_;rintro _ H5 ⟨rfl,f5,o5,l5,m5,r5⟩;rw[←as']at o5;replace o5:jr H5 b (bF y vj ak) f5:=o5;replace l5:H4.length≤H5.length:=l5;replace r5:∀c,¬(c∈dh fE' f2' fL4 f4'∨c∈([]:List Nat))→c≠b→c<H4.length→H5[c]? = H4[c]?:=r5;replace m5:∀c∈f5,(c∈dh fE' f2' fL4 f4'∨c∈([]:List Nat))∨H4.length≤c:=m5;simp only[au,Aaa,Aab,kh,dI,dL,dO,dJ,dC,bN];have fp4':∀c,c∈dh fE' f2' fL4 f4'→c∈dh fE' f2' fL' f4'∨hh.length≤c:=fun c hc=>by
   rcases aO.1 hc with q|q|q|q
   ·exact .inl (aO.2 (.inl q))
   ·exact .inl (aO.2 (.inr (.inl q)))
   ·exact(m4 c q).imp (fun h=>aO.2 (.inr (.inr (.inl h)))) id
   ·exact .inl (aO.2 (.inr (.inr (.inr q))))
  have m5':∀c∈f5,c∈dh fE' f2' fL' f4'∨hh.length≤c:=fun c hc=>by
   rcases m5 c hc with(g|g)|g
   ·exact fp4' c g
   ·cases g
   ·exact .inr (by omega)
  have r5':∀c,c∉dh fE' f2' fL' f4'→c≠b→c<hh.length→H5[c]? = hh[c]?:=fun c h1 h2 h3=>by
   rw[r5 c (fun h=>by
    rcases h with g|g
    ·rcases fp4' c g with q|q
     ·exact h1 q
     ·omega
    ·cases g) h2 (by omega),r4 c (fun h=>h1 (aO.2 (.inr (.inr (.inl h))))) h3]
  refine⟨(j+1,H5,f5,_),⟨hlt,by simp only;rw[ts];exact o5,by simp only;omega,fun c hc=>?_,fun c h1 h2 h3=>?_,fun c hc=>?_,hLX _⟩,by simp only;omega,⟨by rw[wN (by omega)];simp[Bm,gW,gM],rfl,rfl⟩⟩
  ·rcases m5' c hc with g|g
   ·exact mj c g
   ·exact .inr (by omega)
  ·simp only;rw[r5' c (fun h=>by rcases mj c h with q|q;exact h1 q;omega) h2 (by omega),rj c h1 h2 h3]
  ·simp only;obtain⟨q1,q2⟩:=qj c hc;obtain⟨_,q3,q4,_⟩:=fQ7 c (by simp[hc]);refine⟨by rw[r5' c q2 q3 (by omega),q1],fun h=>?_⟩;rcases m5' c h with g|g
   ·exact q2 g
   ·omega
theorem Kd{n:Nat}(hD:CH Γ n):RZ Γ n:=by
 intro v s q H b f am fs hmu hvi hki hrq hw a os;obtain⟨wa,rfl,oa⟩:=ku os;obtain⟨g1,g2,g3,g4⟩:=oa.cell;refine Xs (aC aG mixed [] _ _ _ ?_);unfold QU;simp only[au,Aaa,Aab,HD,A7,tP,bC,g1,g2,g3];refine al.val (by simp only[EO]) (yy _) ?_;simp only[au,Aaa,Aab,HD,A7,tP,bC,g1,g2,g3];try refine⟨fun r hr n cs hc=>by rw[show r=5 by simpa using hr]at hc ⊢;exact hc,?_⟩
 refine al.ref (by simp only[EO,an.c]) (R5 hD v q s.result bd hmu hvi hki hrq hw H a) ?_;rintro _ H' ⟨rfl,u⟩;simp only[au,Aaa,Aab,HD,A7,tP,bC];first|exact⟨rfl,rfl,u⟩|exact⟨rfl,u⟩|trace_state
set_option maxHeartbeats 8000000 in
set_option maxRecDepth 100000 in
theorem VW{n:Nat}(hD:CH Γ n):CH Γ (n+1):=by
 intro v s q H b f am fs hmu hvi hki hrq hs hw a os ns ds;obtain⟨wE,w2,wL,w4,fE,f2,fL,f4,rfl,o⟩:=a;obtain⟨wa,rfl,oa⟩:=ku os;have hE:v.entities.length≤1048576:=by have:=hvi.fH;omega
 have hloop:=hvi.loop;have hmu':mJ v≤n:=by omega
 have hb:=o.hb;have blt:=o.blt;have vlt:=o.lt;have cb:=VO.Cp hb;obtain⟨a1,a2,a3,a4⟩:=o.oE.cell;obtain⟨b1,b2,b3,b4⟩:=o.o2.cell;obtain⟨g1,g2,g3,g4⟩:=oa.cell;obtain⟨_,lE⟩:=dc o.oE;obtain⟨_,l2⟩:=dc o.o2;rw[Aae]at lE l2;obtain⟨y,hy⟩:∃y,y=pC v s:=⟨_,rfl⟩
 have hy':cO v ⟨1,s.target⟩=y:=by rw[hy];rfl
 have FAIL:∀(tg:Int),aT (n+1) v s=dD (aT n) v s.result bd→T Tryz.prog Γ Fn.kaP [.gp b 0 0,.agg [.int .i64 tg,.str s.name,wa,.int .i64 s.result,.int .i64 s.tag.vat,.int .i64 s.tag.entity,.int .i64 s.tag.seq]] H fun r H'=>r=.tup []∧e9 H b (fun c=>c∈dh fE f2 fL f4∨c∈fs) H' (aT (n+1) v s):=fun tg e=>by
  rw[e];exact(Kd hD v { s with target:=tg } q H b _ _ fs hmu' hvi hki hrq.vD (by omega) o.at (tJ (s:={ s with target:=tg }) oa)).mono fun r H' ⟨h1,h2⟩=>⟨h1,h2.mono fun c hc=>.inl hc⟩
 refine YY (aC aG mixed [] _ _ _ ?_);unfold PC;simp only[au,Aaa,Aab,qB,jT,jL,jE,jP,ic,hB,hY,hM,bC,g1,g2,g3];refine al.val (by simp only[EO]) (BS _ _) ?_;simp only[au,Aaa,Aab,qB,jT,jL,jE,jP,ic,hB,hY,hM,bC];refine al.fk (by simp only[EO,an.c]) (aI (tr o) (aI (.same _) aZ)) (fun h=>F4 true v hE ⟨1,s.target⟩ h (Ptr.ip h true _)) (.agg _ (by intro z hz;simp only[an.c,Aal,Aah,or_false]at hz;rcases hz with rfl|rfl<;>exact .int _ _)) ?_;rw[hy'];simp only[au,Aaa,Aab,qB,jT,jL,jE,jP,ic,hB,hY,hM,bC,an.c];refine al.ref (by simp only[EO]) (S8 hE false y o) ?_;rintro r h' ⟨⟨e1,i1⟩|⟨e1,rfl⟩,e⟩;rotate_left
 ·replace e:h'=H:=e;subst e;have ef:aT (n+1) v s=dD (aT n) v s.result bd:=by rw[aT,←hy,if_neg (by rw[e1];simp)]
  simp only[au,Aaa,Aab,qB,jT,jL,jE,jP,ic,hB,hY,hM,bN,cb,a1,a2,a3,b1,b2,b3,g1,g2,g3,lE,l2,ag,ae,cg];refine al.ref (by simp only[EO,g3,g4]) (FAIL _ ef) ?_;rintro _ H' ⟨rfl,fin⟩;simp only[au,Aaa,Aab,qB,jT,jL,jE,jP,ic,hB,hY,hM,bC];first|exact⟨rfl,rfl,fin⟩|exact⟨rfl,fin⟩|trace_state
 replace e:h'=H:=e;subst e;have q1:y.kind=1:=by simpa using(Aak.1 e1).1
 have e2:=(Aak.1 e1).2;obtain⟨k,hk,ek,ek2,eA⟩:=cL e2;obtain⟨r0,hr⟩:∃r0,r0=aD v y.n:=⟨_,rfl⟩
 have eD:=aT.eq_2 v s n;rw[←hy,if_pos e1,←hr]at eD;rw[←hr]at eA;have nk:¬(r0.kind=2∧r0.state=2):=by
  have:=M4 (v:=v) (x:=⟨1,s.target⟩) (by rw[hy'];exact q1) (by rw[hy'];exact e2);rw[hy',←hr]at this;exact this
 have kk:r0.kind=1∨r0.kind=2∨r0.kind=3:=hki _ (by rw[eA];exact List.mem_map.2 ⟨_,Aai hk,rfl⟩);obtain⟨bR,gR,pre,row,post,fR,iR,mR,lR,oR,nR,sR,bmR,bnR,wr⟩:=o.ph hk;rw[←ek,i1]at iR;injection iR with iR
 subst iR;rw[←eA]at oR;obtain⟨wS,wQ,wA,fS,fQ,fA,rfl,rfl,oS,oQ,oA⟩:=c5 oR;obtain⟨x5,x6,x7,x8⟩:=oQ.cell;obtain⟨_,lQ⟩:=dc oQ;rw[Aae]at lQ;have r0':∀(e:List AV) (L:List (List AV)),(St.mk e L h').cells (.gp bR gR (pre.length+0)) 1=some [.int .i64 r0.kind]:=fun e L=>mR.cells e L 0 1 (by simp);have r3':∀(e:List AV) (L:List (List AV)),(St.mk e L h').cells (.gp bR gR (pre.length+3)) 1=some [.int .i64 r0.state]:=fun e L=>mR.cells e L 3 1 (by simp);have r6':∀(e:List AV) (L:List (List AV)),(St.mk e L h').cells (.gp bR gR (pre.length+6)) 1=some [wQ]:=fun e L=>mR.cells e L 6 1 (by simp);have r8':∀(e:List AV) (L:List (List AV)),(St.mk e L h').cells (.gp bR gR (pre.length+8)) 1=some [.int .i64 r0.peer]:=fun e L=>mR.cells e L 8 1 (by simp);have r9':∀(e:List AV) (L:List (List AV)),(St.mk e L h').cells (.gp bR gR (pre.length+9)) 1=some [.int .i64 r0.pos]:=fun e L=>mR.cells e L 9 1 (by simp);have ost:aM h' [.int .i64 y.n,.str s.name,wa,.int .i64 s.result,.int .i64 s.tag.vat,.int .i64 s.tag.entity,.int .i64 s.tag.seq] (nC v s).cd fs:=by
  have:=tJ (s:=nC v s) oa;rw[show(nC v s).target=y.n by rw[hy];rfl]at this;exact this
 by_cases k1:r0.kind=1
 ·rw[if_pos k1]at eD;by_cases t60:v.loop.length<60;rotate_left
  ·rw[if_neg t60]at eD;simp only[au,Aaa,Aab,qB,jT,jL,jE,jP,ic,hB,hY,hM,bN,cb,a1,a2,a3,b1,b2,b3,g1,g2,g3,lE,l2,ag,ae,cg,r0',aR k1,aR (show(v.loop.length:Int)≥60 by omega),aR (show(60:Int)≤(v.loop.length:Int)by omega)];refine al.ref (by simp only[EO,g3,g4]) (FAIL _ eD) ?_;rintro _ H' ⟨rfl,fin⟩;simp only[au,Aaa,Aab,qB,jT,jL,jE,jP,ic,hB,hY,hM,bC];first|exact⟨rfl,rfl,fin⟩|exact⟨rfl,fin⟩|trace_state
  ·rw[if_pos t60]at eD;have nd2:(f2++fs).Nodup:=Aac.2 ⟨o.n2,ns,fun x hx y hy e=>(ds y hy).1 (aO.2 (.inr (.inl (e▸hx))))⟩;obtain⟨v',H1,f2',ea,o',nd',hf',hl',hm'⟩:=df (bytes:=80) o.o2 nd2 (by omega) rfl ost (by simp only[Aae,aU];omega);obtain⟨j1,j2,j3,j4⟩:=o'.cell;have hb1:cF H1 b=some (0,[.int .i64 v.id,wE,w2,wL,w4]):=by rw[bc (hf' b o.b2 blt)];exact hb
   obtain⟨H2,s2,hb2,l2',r2⟩:=xB hb1 (i:=2) (w:=v') (by simp) j3;have o2:=o.ZS (G:=fs) (l':=v.loop++[nC v s]) (f2':=f2') hb2 ((by rw[Aaj];exact o':b9 H1 v' (.sl 7 ((v.loop++[nC v s]).map aK.cd)) f2').frame fun c hc=>r2 c (fun e=>by
    subst e;rcases hm' c hc with g|g|g
    ·exact o.b2 g
    ·exact(ds c g).2 rfl
    ·omega)) nd' hm' ds (by omega) (fun c h1 h2 h3 h4=>by rw[r2 c h3,hf' c h1 h4])
   have fin:e9 h' b (fun c=>c∈dh fE f2 fL f4∨c∈fs) H2 { v with loop:=v.loop++[nC v s] }:=o2.up (by omega) (fun c hc=>by
    rcases aO.1 hc with g|g|g|g
    ·exact .inl (.inl (aO.2 (.inl g)))
    ·rcases hm' c g with q|q|q
     ·exact .inl (.inl (aO.2 (.inr (.inl q))))
     ·exact .inl (.inr q)
     ·exact .inr q
    ·exact .inl (.inl (aO.2 (.inr (.inr (.inl g)))))
    ·exact .inl (.inl (aO.2 (.inr (.inr (.inr g)))))) (fun c h1 h2 h3=>by rw[r2 c h2,hf' c (fun h=>h1 (.inl (aO.2 (.inr (.inl h))))) h3])
   rw[←eD]at fin;simp only[au,Aaa,Aab,qB,jT,jL,jE,jP,ic,hB,hY,hM,bN,cb,a1,a2,a3,b1,b2,b3,g1,g2,g3,lE,l2,ag,ae,cg,r0',aR k1,aW (show ¬(v.loop.length:Int)≥60 by omega),aW (show ¬(60:Int)≤(v.loop.length:Int)by omega),ea,j1,j2,j3,s2]
   repeat' (first
    | (guard_target =~ Mem _ _;first|exact Mem.loc ⟨_,([]:List (List AV))++[_],_⟩ _ [_]|exact Mem.heap ⟨_,_,_⟩ _ _)
    | (guard_target =~ jB _ _ _;first|exact gI rfl|exact jZ (L':=[_]) rfl)
    | exact⟨rfl,rfl,fin⟩|exact⟨rfl,fin⟩|exact fin|refine And.intro ?_ ?_)
 rw[if_neg k1]at eD;by_cases k3:r0.kind=3
 ·rw[if_pos k3]at eD;have eN:aT (n+1) v s=sB n v s r0.peer r0.pos none:=by
   rw[eD];by_cases co:dT v s r0.peer=true
   ·rw[if_pos (show dT v (nC v s) r0.peer=true from co),sB,if_pos co];rfl
   ·rw[if_neg (show ¬dT v (nC v s) r0.peer=true from co),sB,if_neg co]
  simp only[au,Aaa,Aab,qB,jT,jL,jE,jP,ic,hB,hY,hM,bN,cb,a1,a2,a3,b1,b2,b3,g1,g2,g3,lE,l2,ag,ae,cg,r0',r8',r9',aW k1,aR k3];refine al.ref (by simp only[EO,g3,g4]) (RB hD (Kd hD) v s q r0.peer r0.pos hmu' hvi hki hrq hs hw h' o os ns ds none .nilp (.inl ⟨rfl,rfl⟩)) ?_;rintro _ H' ⟨rfl,fin⟩;rw[←eN]at fin;simp only[au,Aaa,Aab,qB,jT,jL,jE,jP,ic,hB,hY,hM,bC];first|exact⟨rfl,rfl,fin⟩|exact⟨rfl,fin⟩|trace_state
 rw[if_neg k3]at eD;have k2:r0.kind=2:=by omega
 rw[if_pos k2]at eD;by_cases s3:r0.state=3
 ·rw[if_pos s3]at eD;have h3t:Gq (aD v y.n):=by rw[←hr];exact⟨k2,s3⟩
  have eN:aT (n+1) v s=sB n v s r0.peer 0 (some y.n):=by
   rw[eD];by_cases co:dT v s r0.peer=true
   ·rw[if_pos (show dT v (nC v s) r0.peer=true from co),sB,if_pos co,←hr];rfl
   ·rw[if_neg (show ¬dT v (nC v s) r0.peer=true from co),sB,if_neg co]
  simp only[au,Aaa,Aab,qB,jT,jL,jE,jP,ic,hB,hY,hM,bN,cb,a1,a2,a3,b1,b2,b3,g1,g2,g3,lE,l2,ag,ae,cg,r0',r3',r8',r9',aW k1,aW k3,aR k2,aR s3];refine al.ref (by simp only[EO,g3,g4]) (RB hD (Kd hD) v s q r0.peer 0 hmu' hvi hki hrq hs hw h' o os ns ds (some y.n) (.gp bR gR pre.length) (.inr ⟨y.n,rfl,e2,h3t,i1⟩)) ?_;rintro _ H' ⟨rfl,fin⟩;rw[←eN]at fin;simp only[au,Aaa,Aab,qB,jT,jL,jE,jP,ic,hB,hY,hM,bC];first|exact⟨rfl,rfl,fin⟩|exact⟨rfl,fin⟩|trace_state
 rw[if_neg s3]at eD;rw[if_neg (fun h=>nk ⟨k2,h⟩)]at eD;by_cases t40:r0.queue.length<40;rotate_left
 ·rw[if_neg t40]at eD;simp only[au,Aaa,Aab,qB,jT,jL,jE,jP,ic,hB,hY,hM,bN,cb,a1,a2,a3,b1,b2,b3,g1,g2,g3,lE,l2,ag,ae,cg,r0',r3',r6',x5,x6,x7,lQ,aW k1,aW k3,aR k2,aW s3,aR (show(r0.queue.length:Int)≥40 by omega),aR (show(40:Int)≤(r0.queue.length:Int)by omega)];refine al.ref (by simp only[EO,g3,g4]) (FAIL _ eD) ?_;rintro _ H' ⟨rfl,fin⟩;simp only[au,Aaa,Aab,qB,jT,jL,jE,jP,ic,hB,hY,hM,bC];first|exact⟨rfl,rfl,fin⟩|exact⟨rfl,fin⟩|trace_state
 rw[if_pos t40]at eD;obtain⟨nS2,nQA2,dS2⟩:=Aac.1 nR;obtain⟨nQ2,nA2,dQ2⟩:=Aac.1 nQA2;have ltR:∀c,c∈fS++(fQ++fA)→c<h'.length:=fun c hc=>vlt c (aO.2 (.inl (sR c hc)));have nofs:∀c∈fs,c∉fS++(fQ++fA):=fun c hc h=>(ds c hc).1 (aO.2 (.inl (sR c h)));obtain⟨v',H8,fp',ea,o8,nd8,hf8,hl8,hm8⟩:=df (bytes:=80) oQ (Aac.2 ⟨nQ2,ns,fun x hx y hy e=>nofs y hy (by subst e;simp[hx])⟩) (by omega) rfl ost (by simp only[Aae,aU];omega);obtain⟨p1,p2,p3,p4⟩:=o8.cell;have kS:∀c∈fS++fA,H8[c]? = h'[c]?:=fun c hc=>by
  refine hf8 c (fun h=>?_) (ltR c (by simp only[Aad]at hc ⊢;exact hc.elim .inl fun h=>.inr (.inr h)));rcases Aad.1 hc with q|q
  ·exact dS2 c q c (List.mem_append_left _ h) rfl
  ·exact dQ2 c h c q rfl
 have bRQ:bR∉fQ:=fun h=>bnR (by simp[h]);have bRlt:bR<h'.length:=vlt bR (aO.2 (.inl bmR));have m8:=mR.frame (hf8 bR bRQ bRlt);obtain⟨H9,s9,m9,l9,r9⟩:=m8.put 6 [v'] (by simp) (by simp only[je,jg,p3];rfl);replace m9:pj H9 bR gR pre [.int .i64 r0.kind,.int .i64 r0.script,wS,.int .i64 r0.state,.int .i64 r0.value.kind,.int .i64 r0.value.n,v',wA,.int .i64 r0.peer,.int .i64 r0.pos,.int .i64 r0.count,.int .i64 r0.sent] post:=m9;have bRf:bR∉fp':=fun h=>by
  rcases hm8 bR h with g|g|g
  ·exact bRQ g
  ·exact(ds bR g).1 (aO.2 (.inl bmR))
  ·omega
 have own9:aM H9 _ (sh r0 (nC v s)).cd (fS++(fp'++fA)):=jo (e:=sh r0 (nC v s)) (oS.frame fun c hc=>by rw[r9 c (fun e=>bnR (e▸(by simp[hc]))),kS c (by simp[hc])]) (wQ:=v') (fQ:=fp') (by
  have:=o8.frame (h':=H9) fun c hc=>r9 c (fun e=>bRf (e▸hc));simp only[sh,Aaj];exact this) (oA.frame fun c hc=>by rw[r9 c (fun e=>bnR (e▸(by simp[hc]))),kS c (by simp[hc])])
 obtain⟨fE9,o9,me9⟩:=wr H9 _ (sh r0 (nC v s)) (fS++(fp'++fA)) fs (by omega) ds m9 own9
  (Aac.2 ⟨nS2,Aac.2 ⟨nd8,nA2,fun x hx y hy e=>by
   subst e;rcases hm8 x hx with g|g|g
   ·exact dQ2 x g x hy rfl
   ·exact nofs x g (by simp[hy])
   ·have:=ltR x (by simp[hy]);omega⟩,fun x hx y hy e=>by
   subst e;rcases Aad.1 hy with q|q
   ·rcases hm8 x q with g|g|g
    ·exact dS2 x hx x (by simp[g]) rfl
    ·exact nofs x g (by simp[hx])
    ·have:=ltR x (by simp[hx]);omega
   ·exact dS2 x hx x (by simp[q]) rfl⟩)
  (fun c hc=>by
   simp only[Aad]at hc ⊢;rcases hc with g|g|g
   ·exact .inl (.inl g)
   ·rcases hm8 c g with q|q|q
    ·exact .inl (.inr (.inl q))
    ·exact .inr (.inl q)
    ·exact .inr (.inr q)
   ·exact .inl (.inr (.inr g))) (fun c hc hn _ hb=>by rw[r9 c hb,hf8 c (fun h=>hn (by simp[h])) hc])
 have ev:({ v with entities:=v.entities.set k (sh r0 (nC v s)) }:ar)=aT (n+1) v s:=by rw[eD,cT,ek2]
 rw[ev]at o9;have fin:e9 h' b (fun c=>c∈dh fE f2 fL f4∨c∈fs) H9 (aT (n+1) v s):=o9.up (by omega) (fun c hc=>by
  rcases aO.1 hc with g|g|g|g
  ·rcases me9 c g with q|q
   ·exact .inl (.inl (aO.2 (.inl q.1)))
   ·simp only[Aad]at q;rcases q with q|q|q
    ·exact .inl (.inl (aO.2 (.inl (sR c (by simp[q])))))
    ·rcases hm8 c q with q|q|q
     ·exact .inl (.inl (aO.2 (.inl (sR c (by simp[q])))))
     ·exact .inl (.inr q)
     ·exact .inr q
    ·exact .inl (.inl (aO.2 (.inl (sR c (by simp[q])))))
  ·exact .inl (.inl (aO.2 (.inr (.inl g))))
  ·exact .inl (.inl (aO.2 (.inr (.inr (.inl g)))))
  ·exact .inl (.inl (aO.2 (.inr (.inr (.inr g)))))) (fun c h1 h2 h3=>by
  rw[r9 c (fun e=>h1 (.inl (aO.2 (.inl (e▸bmR))))),hf8 c (fun h=>h1 (.inl (aO.2 (.inl (sR c (by simp[h])))))) h3])
 simp only[au,Aaa,Aab,qB,jT,jL,jE,jP,ic,hB,hY,hM,bN,cb,a1,a2,a3,b1,b2,b3,g1,g2,g3,lE,l2,ag,ae,cg,r0',r3',r6',x5,x6,x7,lQ,aW k1,aW k3,aR k2,aW s3,aW (show ¬(r0.queue.length:Int)≥40 by omega),aW (show ¬(40:Int)≤(r0.queue.length:Int)by omega),ea,p1,p2,p3,s9]
 repeat' (first
  | (guard_target =~ Mem _ _;first|exact Mem.loc ⟨_,([]:List (List AV))++[_],_⟩ _ [_]|exact Mem.heap ⟨_,_,_⟩ _ _)
  | (guard_target =~ jB _ _ _;first|exact gI rfl|exact jZ (L':=[_]) rfl)
  | exact⟨rfl,rfl,fin⟩|exact⟨rfl,fin⟩|exact fin|refine And.intro ?_ ?_)
theorem Kh:∀n,CH Γ n
 | 0=>fun v s q H b f am fs hmu=>absurd hmu (Nat.not_lt_zero _)
 | n+1=>VW (Kh n)
end Go.Proofs.YtolciaflplefcaaGreat
