import Derived.Test.YtolciaflplefcaaGreatR6G29
set_option linter.unusedVariables false
set_option linter.unusedSimpArgs false
open Go.Proofs.Tryz renaming prog→pQ
open Nat renaming reduceAdd→Aaa,reduceBEq→Aab,zero_le→Aag,le_refl→Aaj
open List renaming not_mem_nil→Aac,mem_cons→Aad,map_cons→Aae,map_nil→Aaf,getD_eq_getElem?_getD→Aah,getElem_mem→Aai
namespace Go.Proofs.YtolciaflplefcaaGreat
open Go.AM
variable {Γ:bG}
theorem Zz(bs:List Int)(h:AH):T pQ Γ Fn.kbo [.vs false 1 false (bs.map fun n=>[.int .u8 n])] h fun v h'=>v=.bool (decide (1048576<(bs.length:Int)))∧h'=h:=by
 have L0:=eY false 1 false bs (fun n=>[AV.int .u8 n]);refine ZU (aC aG mixed [] _ _ _ ?_);unfold SO;simp only[au,Aaa,Aab,Rj,L0];first|exact⟨rfl,rfl⟩|exact rfl
theorem Dr(l:aF)(p c:Int):(qo l p c).answers=l.answers∧xK (qo l p c)≤xK l:=by
 by_cases hc:c<1
 ·rw[tQ hc];exact⟨rfl,Aaj _⟩
 rcases iB (fun x:aE=>x.pos == p) l.exports with⟨k,hk,e1,_,_⟩|⟨e1,_,_⟩
 ·rw[Eo hc hk e1];split
  ·refine⟨rfl,?_⟩;have:=List.length_eraseIdx_le l.exports k;simp only[xK];omega
  ·exact⟨rfl,by simp[xK]⟩
 ·rw[uH e1];exact⟨rfl,Aaj _⟩
theorem MP(l:aF)(p c:Int):(qo l p c).answers=l.answers:=(Dr l p c).1
theorem VQ(l:aF)(p c:Int):xK (qo l p c)≤xK l:=(Dr l p c).2
theorem GX.T8{K:Nat}{v:ar}(hv:VI v)(hw:wV v≤1000):v.ok 1073741824:=hv.Gt.mono (by omega)
theorem HV{K:Nat}{v:ar}(g:GI K v)(hK:K≤100)(peer:Int)(m:ah):(uF v peer m).ok 1073741824:=by
 have hw:=g.w;unfold uF;split
 ·rename_i hc;obtain⟨k,hk,ek,_⟩:=pM hc.2;have e0:fJ v peer=v.aq[k]:=ib hk ek;have l0:sg v peer=k:=by rw[sg,ek];rfl
  have gk:v.aq.getD k default=v.aq[k]:=by simp[Aah,hk]
  rw[e0,l0];split
  ·split
   ·exact GX.T8 (K:=K) ((jX v peer (gU 4 m.question)).2.2 g.vi ⟨Aag _,Aag _⟩) (by have:=(jX v peer (gU 4 m.question)).2.1;omega)
   ·exact GX.T8 (K:=K) g.vi (by omega)
  ·split
   ·refine GX.T8 (K:=K) (qg g.vi k _ (Nat.le_trans (wx _ _) (g.vi.ans _ (Aai hk)))) ?_;have:=sj (v:=v) k (GD v.aq[k] m.question) (c:=0) (by rw[gk];simp[xK,GD]);omega
   ·split
    ·refine GX.T8 (K:=K) (qg g.vi k _ (by rw[MP];exact g.vi.ans _ (Aai hk))) ?_;have:=sj (v:=v) k (qo v.aq[k] m.pos m.count) (c:=0) (by rw[gk];exact VQ _ _ _);omega
    ·exact GX.T8 (K:=K) g.vi (by omega)
 ·exact GX.T8 (K:=K) g.vi (by omega)
theorem GI.okB{K:Nat}{v:ar}(g:GI K v)(hK:K≤1000):v.ok 1073741824:=GX.T8 (K:=K) g.vi (by have:=g.w;omega)
theorem LF{K:Nat}{v:ar}(x:GX K v)(hK:K+10≤100)(peer:Int)(m:ah)(hm:m.args.length≤4)(hn:m.name.size≤100):(kq v peer m).ok 1073741824:=by
 unfold kq;split
 ·exact(x.call hK peer m hm hn).gi.okB (by omega)
 ·split
  ·exact(x.ret (by omega) peer m).gi.okB (by omega)
  ·split
   ·exact(x.T6 (by omega) peer m).gi.okB (by omega)
   ·exact HV x.gi (by omega) peer m
theorem qC{K:Nat}(β':Bool)(v:ar)(x:GX K v)(hK:K+10≤100)(peer:Int)(m:ah)(hm:m.args.length≤4)(hn:m.name.size≤100)(h:AH):T pQ Γ Fn.kaG [.agg (v.c false),.int .i64 peer,.agg (m.c β')] h fun r h'=>r=.agg ((ng v peer m).c false)∧h'=h:=by
 have:=(VK (Γ:=Γ) false β' v x hK peer m hm hn h).frozen;simpa only[Aae,Aaf,so,ES,ar.bO]using this
theorem wY{K:Nat}(β':Bool)(v:ar)(x:GX K v)(hK:K+10≤100)(peer:Int)(m:ah)(hm:m.args.length≤4)(hn:m.name.size≤100)(h:AH):T pQ Γ Fn.kcj [.agg (v.c false),.int .i64 peer,.agg (m.c β')] h fun r h'=>r=.agg ((ng v peer m).c false)∧h'=h:=by
 have:=(X3 (Γ:=Γ) false β' v x.gi hK peer m hm hn h).frozen;simpa only[Aae,Aaf,so,ES,ar.bO]using this
theorem w0{K:Nat}(β':Bool)(v:ar)(x:GX K v)(hK:K+10≤100)(peer:Int)(m:ah)(hm:m.args.length≤4)(hn:m.name.size≤100)(h:AH):T pQ Γ Fn.kaF [.agg (v.c false),.int .i64 peer,.agg (m.c β')] h fun r h'=>r=.agg ((nJ v peer m).c false)∧h'=h:=by
 have:=(Y6 (Γ:=Γ) false β' v x hK peer m hm hn h).frozen;simpa only[Aae,Aaf,so,ES,ar.bO]using this
theorem wW{K:Nat}(β':Bool)(v:ar)(x:GX K v)(hK:K+10≤100)(peer:Int)(m:ah)(hm:m.args.length≤4)(hn:m.name.size≤100)(h:AH):T pQ Γ Fn.kci [.agg (v.c false),.int .i64 peer,.agg (m.c β')] h fun r h'=>r=.agg ((nJ v peer m).c false)∧h'=h:=by
 have:=(Zd (Γ:=Γ) false β' v x.gi hK peer m hm hn h).frozen;simpa only[Aae,Aaf,so,ES,ar.bO]using this
theorem vm{K:Nat}(β':Bool)(v:ar)(x:GX K v)(hK:K+10≤100)(peer:Int)(m:ah)(hm:m.args.length≤4)(hn:m.name.size≤100)(h:AH):T pQ Γ Fn.kaE [.agg (v.c false),.int .i64 peer,.agg (m.c β')] h fun r h'=>r=.agg ((uF v peer m).c false)∧h'=h:=by
 have:=(Wd (Γ:=Γ) false β' v x hK peer m hm hn h).frozen;simpa only[Aae,Aaf,so,ES,ar.bO]using this
theorem uK{K:Nat}(β':Bool)(v:ar)(x:GX K v)(hK:K+10≤100)(peer:Int)(m:ah)(hm:m.args.length≤4)(hn:m.name.size≤100)(h:AH):T pQ Γ Fn.kch [.agg (v.c false),.int .i64 peer,.agg (m.c β')] h fun r h'=>r=.agg ((uF v peer m).c false)∧h'=h:=by
 have:=(Uv (Γ:=Γ) false β' v x.gi hK peer m hm hn h).frozen;simpa only[Aae,Aaf,so,ES,ar.bO]using this
theorem Cs{K:Nat}(β':Bool)(v:ar)(x:GX K v)(hK:K+10≤100)(peer:Int)(m:ah)(hm:m.args.length≤4)(hn:m.name.size≤100)(h:AH):T pQ Γ Fn.kaD [.agg (v.c false),.int .i64 peer,.agg (m.c β')] h fun r h'=>r=.agg ((kq v peer m).c false)∧h'=h:=by
 have:=(kaD_X (Γ:=Γ) false β' v x hK peer m hm hn h).frozen;simpa only[Aae,Aaf,so,ES,ar.bO]using this
theorem Cy{K:Nat}(β':Bool)(v:ar)(x:GX K v)(hK:K+10≤100)(peer:Int)(m:ah)(hm:m.args.length≤4)(hn:m.name.size≤100)(h:AH):T pQ Γ Fn.kcf [.agg (v.c false),.int .i64 peer,.agg (m.c β')] h fun r h'=>r=.agg ((kq v peer m).c false)∧h'=h:=by
 have:=(RM (Γ:=Γ) false β' v x.gi hK peer m hm hn h).frozen;simpa only[Aae,Aaf,so,ES,ar.bO]using this
set_option maxHeartbeats 16000000 in
set_option maxRecDepth 100000 in
theorem Cz(bs:List Int)(hb:bs.length≤maxLen)(hr:∀x∈bs,0≤x∧x<256)(h:AH):T pQ Γ Fn.kbn [.vs false 1 false (bs.map fun n=>[.int .u8 n])] h fun v h'=>v=.bool true∧h'=h:=by
 refine(?_:T pQ Γ Fn.kbn _ h fun v h'=>v=.bool true∧∃N,h'=h++N).drop (by rintro v h' ⟨rfl,N,rfl⟩;exact⟨N,rfl,.bool _,rfl,rfl⟩);refine Z5 (aC aG mixed [] _ _ _ ?_);unfold SJ;simp only[au,Aaa,Aab,kC,eL,eJ,c7,cV];refine al.val (by simp only[EO]) (Zz bs _) ?_;by_cases nb:1048576<(bs.length:Int)
 ·simp only[au,Aaa,Aab,kC,eL,eJ,c7,cV,aR nb];first|exact⟨rfl,rfl,[],by simp⟩|exact⟨rfl,[],by simp⟩
 simp only[au,Aaa,Aab,kC,eL,eJ,c7,cV,aW nb];refine al.ref (by simp only[EO]) (N5 bs (by omega) _) ?_;rintro _ H ⟨⟨v,n,m,rfl,gv,hm,hn⟩,he⟩;replace he:H=h:=he;subst he;obtain⟨x,hx⟩:∃x,x=ng v n m:=⟨_,rfl⟩
 have gx:=gv.ret (by omega) n m;have once:=Jz gv.gi (by omega) n m;have hold:=fun i hi=>IZ gv.rq n m (i:=i) hi;have xlen:=KF (v:=v) n m;rw[←hx]at gx once xlen;simp only[←hx]at hold;obtain⟨y,hy⟩:∃y,y=nJ x n (gU 4 m.question):=⟨_,rfl⟩
 have gy:=gx.T6 (by omega) n (gU 4 m.question);rw[←hy]at gy;have okx:=gx.gi.okB (by omega);have oky:=gy.gi.okB (by omega);simp only[au,Aaa,Aab,kC,eL,eJ,c7,cV,bC,ar.c,ah.c,ag,ae,kB];refine al.val (by simp only[EO,ar.iX]) (qC false v gv (by omega) n m hm hn _) ?_;rw[←hx];simp only[au,Aaa,Aab,kC,eL,eJ,c7,cV,bC,ar.c,ah.c,ag,ae,kB,ji,sO,sI,sK];refine al.fk (by simp only[EO]) (aI (.same _) (aI (.same _) (aI (aM.fk (ah.bO true (gU 4 m.question)) (sC H 4 m.question)) aZ))) (fun h=>w0 true x gx (by omega) n (gU 4 m.question) (Aag _) (Aag _) h) ((D2 (ar.bO false _)).nb _) ?_;rw[←hy];simp only[au,Aaa,Aab,kC,eL,eJ,c7,cV,bC,ar.c,ah.c,ag,ae,kB];refine al.val (by simp only[EO,ar.iX]) (wY false v gv (by omega) n m hm hn _) ?_;rw[←hx];simp only[au,Aaa,Aab,kC,eL,eJ,c7,cV,bC,ar.c,ah.c,ag,ae,kB];try refine⟨fun r hr n cs hc=>by
  simp only[Aad,Aac,or_false]at hr;subst hr;exact hc,?_⟩
 refine al.val (by simp only[EO,ar.iX]) (FP false false x x okx _) ?_;rw[show decide (x=x)=true from aR rfl];simp only[au,Aaa,Aab,kC,eL,eJ,c7,cV,bC,ar.c,ah.c,ag,ae,kB];try refine⟨fun r hr n cs hc=>by
  simp only[Aad,Aac,or_false]at hr;subst hr;exact hc,?_⟩
 refine al.val (by simp only[EO,ar.iX]) (qC false x gx (by omega) n m hm hn _) ?_;rw[once];simp only[au,Aaa,Aab,kC,eL,eJ,c7,cV,bC,ar.c,ah.c,ag,ae,kB];try refine⟨fun r hr n cs hc=>by
  simp only[Aad,Aac,or_false]at hr;subst hr;exact hc,?_⟩
 refine al.val (by simp only[EO,ar.iX]) (FP false false x x okx _) ?_;rw[show decide (x=x)=true from aR rfl];simp only[au,Aaa,Aab,kC,eL,eJ,c7,cV,bC,ar.c,ah.c,ag,ae,kB,ji,sO,sI,sK];try refine⟨fun r hr n cs hc=>by
  simp only[Aad,Aac,or_false]at hr;subst hr;exact hc,?_⟩
 refine al.fk (by simp only[EO]) (aI (.same _) (aI (.same _) (aI (aM.fk (ah.bO true (gU 4 m.question)) (sC H 4 m.question)) aZ))) (fun h=>wW true x gx (by omega) n (gU 4 m.question) (Aag _) (Aag _) h) ((D2 (ar.bO false _)).nb _) ?_;rw[←hy];simp only[au,Aaa,Aab,kC,eL,eJ,c7,cV,bC,ar.c,ah.c,ag,ae,kB];try refine⟨fun r hr n cs hc=>by
  simp only[Aad,Aac,or_false]at hr;subst hr;exact hc,?_⟩
 refine al.val (by simp only[EO,ar.iX]) (FP false false y y oky _) ?_;rw[show decide (y=y)=true from aR rfl];simp only[au,Aaa,Aab,kC,eL,eJ,c7,cV,bC,ar.c,ah.c,ag,ae,kB];try refine⟨fun r hr n cs hc=>by
  simp only[Aad,Aac,or_false]at hr;subst hr;exact hc,?_⟩
 have LV:=eY false 12 false v.entities (aA.c false);have hE:v.entities.length≤1048576:=by have:=gv.gi.vi.fH;omega
 have hX:x.entities.length≤1048576:=by have:=gx.gi.vi.fH;omega
 refine fD aG mixed [] (fun k:Nat=>k≤v.entities.length) (fun k=>v.entities.length-k)
  (fun k=>zD (.vs false 1 false (bs.map fun n=>[.int .u8 n])) (.lp ([]:List (List AV)).length 0) (.lp (([]:List (List AV)).length+2) 0) (.int .i64 k) (([]:List (List AV))++[v.c false,m.c false,x.c false,y.c false]) H) 0 (Aag _) ⟨by simp[zD,gW,gM],rfl,rfl⟩ ?_
 rintro k hk;simp only[au,Aaa,Aab,kC,eL,eJ,c7,cV,zD,bC,ar.c,ah.c,ag,ae,kB,LV];refine bz (fun hlt=>?_) (fun hge=>?_)
 ·have hlt:k<v.entities.length:=by simpa using hlt
  have e1:bB (k:Int) v.entities.length=true:=by simp only[bB,Bool.and_eq_true,decide_eq_true_eq];omega
  have e2:bB (k:Int) x.entities.length=true:=oC e1 xlen;have eA:aD v (k:Int)=v.entities[k]:=by rw[aD,Int.toNat_natCast,Aah,List.getElem?_eq_getElem hlt];rfl
  have i0:=fI (β:=false) (sz:=12) (ex:=false) (ce:=aA.c false) hlt;have nxt:∃k':Nat,k'≤v.entities.length∧k'=k+1:=⟨k+1,hlt,rfl⟩
  have hh:=hold (k:Int) e1;have hX1:xo x (k:Int)=oU (aD x (k:Int)):=by rw[xo,e2];rfl
  have hV1:xo v (k:Int)=oU (aD v (k:Int)):=by rw[xo,e1];rfl
  simp only[au,Aaa,Aab,kC,eL,eJ,c7,cV,bC,ar.c,ah.c,ag,ae,kB,LV,i0];refine al.val (by simp only[EO,ar.iX]) (Qx false x hX (k:Int) _) ?_;rw[hX1];cases c1:oU (aD x (k:Int))
  ·simp only[au,Aaa,Aab,kC,eL,eJ,c7,cV,bC,ar.c,ah.c,ag,ae,kB,LV,i0];exact⟨k+1,hlt,by omega,⟨by rw[wN (by omega)];simp[zD,gW,gM],rfl,rfl⟩⟩
  simp only[au,Aaa,Aab,kC,eL,eJ,c7,cV,bC,ar.c,ah.c,ag,ae,kB,LV,i0];refine al.val (by simp only[EO,ar.iX]) (Qx false v hE (k:Int) _) ?_;rw[hV1];cases c2:oU (aD v (k:Int));rotate_left
  ·simp only[au,Aaa,Aab,kC,eL,eJ,c7,cV,bC,ar.c,ah.c,ag,ae,kB,LV,i0];exact⟨k+1,hlt,by omega,⟨by rw[wN (by omega)];simp[zD,gW,gM],rfl,rfl⟩⟩
  have c3:decide (v.entities[k].count=0)=false:=by
   rcases hh c1 with g|g
   ·rw[c2]at g;cases g
   ·rw[eA]at g;exact aW g
  simp only[au,Aaa,Aab,kC,eL,eJ,c7,cV,bC,ar.c,ah.c,aA.c,ag,ae,kB,LV,i0,c3];exact⟨k+1,hlt,by omega,⟨by rw[wN (by omega)];simp[zD,gW,gM],rfl,rfl⟩⟩
 clear hx hold once xlen okx oky gx gy hy;simp only[au,Aaa,Aab,kC,eL,eJ,c7,cV,bC,ar.c,ah.c,ag,ae,kB];refine al.ref (by simp only[EO]) (XG bs (by omega) _) ?_;rintro _ H2 ⟨⟨a,na,ma,rfl,ga,hma,hna⟩,he⟩;replace he:H2=H:=he;subst he;simp only[au,Aaa,Aab,kC,eL,eJ,c7,cV,bC,ar.c,ah.c,ag,ae,kB];refine al.ref (by simp only[EO]) (RR bs (by omega) _) ?_;rintro _ H2 ⟨⟨c,nc,mc,rfl,gc,hmc,hnc⟩,he⟩;rename_i H0;replace he:H2=H0:=he;subst he;have oka:=LF ga (by omega) na ma hma hna;have okc:=HV gc.gi (by omega) nc mc;simp only[au,Aaa,Aab,kC,eL,eJ,c7,cV,bC,ar.c,ah.c,ag,ae,kB];refine al.val (by simp only[EO,ar.iX]) (Cs false a ga (by omega) na ma hma hna _) ?_;simp only[au,Aaa,Aab,kC,eL,eJ,c7,cV,bC,ar.c,ah.c,ag,ae,kB];try refine⟨fun r hr n cs hc=>by
  simp only[Aad,Aac,or_false]at hr;rcases hr with rfl|rfl<;>exact hc,?_⟩
 try refine⟨fun r hr n cs hc=>by
  simp only[Aad,Aac,or_false]at hr;subst hr;exact hc,?_⟩
 refine al.val (by simp only[EO,ar.iX]) (Cy false a ga (by omega) na ma hma hna _) ?_;simp only[au,Aaa,Aab,kC,eL,eJ,c7,cV,bC,ar.c,ah.c,ag,ae,kB];try refine⟨fun r hr n cs hc=>by
  simp only[Aad,Aac,or_false]at hr;rcases hr with rfl|rfl<;>exact hc,?_⟩
 try refine⟨fun r hr n cs hc=>by
  simp only[Aad,Aac,or_false]at hr;subst hr;exact hc,?_⟩
 refine al.val (by simp only[EO,ar.iX]) (FP false false (kq a na ma) (kq a na ma) oka _) ?_;rw[show decide ((kq a na ma)=(kq a na ma))=true from aR rfl];simp only[au,Aaa,Aab,kC,eL,eJ,c7,cV,bC,ar.c,ah.c,ag,ae,kB];try refine⟨fun r hr n cs hc=>by
  simp only[Aad,Aac,or_false]at hr;rcases hr with rfl|rfl<;>exact hc,?_⟩
 try refine⟨fun r hr n cs hc=>by
  simp only[Aad,Aac,or_false]at hr;subst hr;exact hc,?_⟩
 refine al.val (by simp only[EO,ar.iX]) (vm false c gc (by omega) nc mc hmc hnc _) ?_;simp only[au,Aaa,Aab,kC,eL,eJ,c7,cV,bC,ar.c,ah.c,ag,ae,kB];try refine⟨fun r hr n cs hc=>by
  simp only[Aad,Aac,or_false]at hr;rcases hr with rfl|rfl<;>exact hc,?_⟩
 try refine⟨fun r hr n cs hc=>by
  simp only[Aad,Aac,or_false]at hr;subst hr;exact hc,?_⟩
 refine al.val (by simp only[EO,ar.iX]) (uK false c gc (by omega) nc mc hmc hnc _) ?_;simp only[au,Aaa,Aab,kC,eL,eJ,c7,cV,bC,ar.c,ah.c,ag,ae,kB];try refine⟨fun r hr n cs hc=>by
  simp only[Aad,Aac,or_false]at hr;rcases hr with rfl|rfl<;>exact hc,?_⟩
 try refine⟨fun r hr n cs hc=>by
  simp only[Aad,Aac,or_false]at hr;subst hr;exact hc,?_⟩
 refine al.val (by simp only[EO,ar.iX]) (FP false false (uF c nc mc) (uF c nc mc) okc _) ?_;rw[show decide ((uF c nc mc)=(uF c nc mc))=true from aR rfl];simp only[au,Aaa,Aab,kC,eL,eJ,c7,cV,bC,ar.c,ah.c,ag,ae,kB];first|exact⟨rfl,rfl,[],by simp⟩|exact⟨rfl,[],by simp⟩|trace_state
end Go.Proofs.YtolciaflplefcaaGreat
