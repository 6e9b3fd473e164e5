import Derived.Test.YtolciaflplefcaaGreatR6G18
set_option linter.unusedVariables false
set_option linter.unusedSimpArgs false
open Nat renaming reduceAdd→Aaa,reduceBEq→Aab,zero_le→Aam,le_refl→Aau,add_assoc→AaC
open List renaming mem_or_eq_of_mem_set→Aac,mem_append→Aad,mem_singleton→Aae,all_cons→Aaf,all_nil→Aag,map_cons→Aah,getElem_mem→Aai,not_mem_nil→Aaj,nodup_append→Aak,length_cons→Aal,map_nil→Aan,mem_cons→Aao,getD_eq_getElem?_getD→Aap,getElem?_eq_getElem→Aaq,length_append→Aar,length_nil→Aas,foldl_cons→Aaw,sum_cons→Aax,getElem_map→Aay,map_append→Aaz,sum_append→AaA,length_map→AaB,sum_nil→AaD,map_set→AaE,mem_map→AaF
open Int renaming le_refl→Aat
open Bool renaming and_eq_true→Aav
namespace Go.Proofs.YtolciaflplefcaaGreat
open Go.AM
variable {Γ:bG}
def NE(l:aF):Prop:=(∀x∈l.exports,0≤x.entity)∧∀q∈l.answers,0≤q.promise
theorem NE.put{l:aF}(h:NE l){e:Int}(he:0≤e):NE (jq l e).1:=by
 rcases iB (fun x:aE=>x.entity == e) l.exports with⟨k,hk,e1,_,_⟩|⟨e1,_,_⟩
 ·rw[AT hk e1];refine⟨fun x hx=>?_,h.2⟩;rcases Aac hx with g|g
  ·exact h.1 x g
  ·rw[g];exact(h.1 l.exports[k] (Aai hk):0≤l.exports[k].entity)
 ·rw[xV e1];refine⟨fun x hx=>?_,h.2⟩;rcases Aad.1 hx with g|g
  ·exact h.1 x g
  ·rw[Aae.1 g];exact he
def kindOk(e:aA):Prop:=e.kind=1∨e.kind=2∨e.kind=3
structure FW (k j:Nat) (v:ar):Prop where
 vi:VI v
 w:wV v+k≤12
 el:v.entities.length+j≤12
 lk:v.aq.length=2
 kd:∀e∈v.entities,kindOk e
 ne:0<v.entities.length
 li:∀l∈v.aq,kv (13-k) l
 nq:∀e∈v.entities,e.queue=[]
 nn:∀l∈v.aq,NE l
theorem FW.vD{k j:Nat}{v:ar}(d:FW (k+1) j v):FW k j v:=⟨d.vi,by have:=d.w;omega,d.el,d.lk,d.kd,d.ne,fun l hl=>(d.li l hl).mono (by omega),d.nq,d.nn⟩
theorem FW.add{k j:Nat}{v:ar}(d:FW k (j+1) v){x:aA}(h1:x.slots.length≤100)(h2:x.queue=[])(h3:x.askers=[])(h4:kindOk x):FW k j (dv v x):=by
 have hl:=d.el;have e:dv v x={ v with entities:=v.entities++[x] }:=by rw[dv,if_neg (by omega)]
 rw[e];have hx:oq x=0:=by simp[oq,h2,h3,sM]
 refine⟨⟨by simp only[Aar,Aal,Aas];omega,d.vi.loop,d.vi.aq,d.vi.ans,fun y hy=>?_,d.vi.lps,d.vi.outs⟩,?_,by simp only[Aar,Aal,Aas];omega,d.lk,fun y hy=>?_,by simp,d.li,fun y hy=>?_,d.nn⟩
 ·rcases Aad.1 hy with g|g
  ·exact d.vi.en y g
  ·rw[Aae.1 g];exact⟨h1,fun s hs=>by rw[h2]at hs;cases hs⟩
 ·have:=d.w;simp only[wV,Aaz,AaA,Aah,Aan,Aax,AaD,hx]at this ⊢;omega
 ·rcases Aad.1 hy with g|g
  ·exact d.kd y g
  ·rw[Aae.1 g];exact h4
 ·rcases Aad.1 hy with g|g
  ·exact d.nq y g
  ·rw[Aae.1 g];exact h2
theorem FW.setL{k j:Nat}{v:ar}(d:FW (k+1) j v){i:Nat}{l:aF}(hl:xK l≤xK (v.aq.getD i default)+1)(ha:l.answers.length≤100)(hi:kv (13-(k+1)+1) l)(hn:NE l):FW k j (dU v i l):=
 ⟨qg d.vi i l ha,by have:=sj (v:=v) i l hl;have:=d.w;omega,d.el,by simp[dU,d.lk],d.kd,d.ne,fun x hx=>by
  have:=d.w;rcases Aac hx with g|g
  ·exact(d.li x g).mono (by omega)
  ·rw[g];exact hi.mono (by omega),d.nq,fun x hx=>by
  rcases Aac hx with g|g
  ·exact d.nn x g
  ·rw[g];exact hn⟩
theorem Lt(script:Int):FW 10 9 (iM 1 [2,3] script):=by
 refine⟨⟨by simp[iM],by simp[iM],by simp[iM],fun l hl=>?_,fun e he=>?_,fun s hs=>by simp[iM]at hs,fun s hs=>by simp[iM]at hs⟩,?_,by simp[iM],by simp[iM],fun e he=>?_,by simp[iM],fun l hl=>?_,fun e he=>?_,fun l hl=>?_⟩
 ·simp only[iM,Aah,Aan,Aao,Aaj,or_false]at hl;rcases hl with rfl|rfl<;>(rw[p0,(tT _ _).2.2];exact Aam _)
 ·simp only[iM,Aah,Aan,Aao,Aaj,or_false]at he;rcases he with rfl|rfl|rfl<;>exact⟨Aam _,fun s hs=>by cases hs⟩
 ·have a:=GV (vv 2) 0;have b:=GV (vv 3) 0;have a0:xK (vv 2)=0:=rfl;have b0:xK (vv 3)=0:=rfl;have e:wV (iM 1 [2,3] script)=xK (p0 2)+xK (p0 3):=by simp[wV,iM,oq,LH,jh,lC,sM]
  rw[e];unfold p0;omega
 ·simp only[iM,Aah,Aan,Aao,Aaj,or_false]at he;rcases he with rfl|rfl|rfl
  ·exact .inl rfl
  ·exact .inr (.inr rfl)
  ·exact .inr (.inr rfl)
 ·simp only[iM,Aah,Aan,Aao,Aaj,or_false]at hl;rcases hl with rfl|rfl<;>exact((kv.zero _).put (by omega) 0).mono (by omega)
 ·simp only[iM,Aah,Aan,Aao,Aaj,or_false]at he;rcases he with rfl|rfl|rfl<;>rfl
 ·simp only[iM,Aah,Aan,Aao,Aaj,or_false]at hl;have z:∀p,NE (vv p):=fun p=>⟨fun x hx=>(by cases hx),fun x hx=>(by cases hx)⟩
  rcases hl with rfl|rfl<;>exact(z _).put (Aat 0)
theorem GU{H H':AH}{b:Nat}{bs:List Int}(d:aP H H' b bs){row:List AV}{cs:List CD}{fp:List Nat}(o:aM H row cs fp)(hb:b∉fp):aM H' row cs fp:=o.frame fun c hc=>d.fr c (o.lt c hc) (fun e=>hb (e▸hc))
structure VC (h H:AH) (b:Nat) (bs:List Int) (v:ar) (wE w2 wL w4:AV) (f:List Nat):Prop where
 own:aM H [.int .i64 v.id,wE,w2,wL,w4] v.cd f
 nd:f.Nodup
 bf:∀c∈f,h.length≤c∧c≠b
 dr:aP h H b bs
theorem VC.draw{h H H':AH}{b:Nat}{bs:List Int}{v:ar}{wE w2 wL w4:AV}{f:List Nat}(x:VC h H b bs v wE w2 wL w4 f)(d:aP H H' b bs):VC h H' b bs v wE w2 wL w4 f:=
 ⟨GU d x.own fun g=>(x.bf b g).2 rfl,x.nd,x.bf,x.dr.trans d⟩
theorem VC.ext{h H H':AH}{b:Nat}{bs:List Int}{v:ar}{wE w2 wL w4:AV}{f:List Nat}(x:VC h H b bs v wE w2 wL w4 f)(d:cQ H H'):VC h H' b bs v wE w2 wL w4 f:=
 x.draw (.pE x.dr.cur d)
theorem zV{h H:AH}{b:Nat}{bs:List Int}{v:ar}{wE w2 wL w4:AV}{f:List Nat}(x:VC h H b bs v wE w2 wL w4 f)(hbl:b<h.length)(hv:v.ok 1048576){e:aA}(he:e.ok 1048576){ec:List AV}{fe:List Nat}(oe:aM H ec e.cd fe)
 {en:List AV} {L:List (List AV)} {K:AV→St→Prop} (ho:[AV.agg [.int .i64 v.id,wE,w2,wL,w4],.agg ec].all gq=true)
 (hk:∀wE' w2' wL' w4' f' H' n,VC h H' b bs (dv v e) wE' w2' wL' w4' f'→K (.tup [.agg [.int .i64 (dv v e).id,wE',w2',wL',w4'],.int .i64 n]) ⟨en,L,H'⟩):
 al Tryz.prog Γ Fn.kbM [.agg [.int .i64 v.id,wE,w2,wL,w4],.agg ec] ⟨en,L,H⟩ K:=by
 refine al.own ho (aI (aM.fk (ar.bO true v) x.own) (aI (aM.fk (aA.bO true e) oe) aZ)) (kbM_T true v hv e he) ?_;rintro _ H' fr;replace fr:aX H _ _ _:=fr;obtain⟨ac,f',rfl,o',n',b',eg⟩:=fr.a2 rfl;obtain⟨wE',w2',wL',w4',_,_,_,_,rfl,_,_⟩:=kJ o';have:=x.dr.len;exact hk wE' w2' wL' w4' f' H' _ ⟨o',n',fun c hc=>by have:=b' c hc;exact⟨by omega,by omega⟩,x.dr.trans (.pE x.dr.cur eg)⟩
theorem TS{w:AV}{p:AV}(h:fh 7 w ((1:Nat):Int)=some p):fh 7 w 1=some p:=h
theorem rp_2(z:AV):(List.replicate 2 [z]).flatten=[z,z]:=rfl
theorem VC.cell{h H:AH}{b:Nat}{bs:List Int}{v:ar}{wE w2 wL w4:AV}{f:List Nat}(x:VC h H b bs v wE w2 wL w4 f):(cellsOf wE=some [wE]∧cn wE=true∧bM wE=true∧gq wE=true)∧(cellsOf w2=some [w2]∧cn w2=true∧bM w2=true∧gq w2=true)∧(cellsOf wL=some [wL]∧cn wL=true∧bM wL=true∧gq wL=true)∧(cellsOf w4=some [w4]∧cn w4=true∧bM w4=true∧gq w4=true)∧Ce false wE=some (.int .i64 v.entities.length):=by
 obtain⟨_,_,_,_,_,_,_,_,e,_,oE,o2,oL,o4⟩:=kJ x.own;simp only[List.cons.injEq,true_and,and_true]at e;obtain⟨rfl,rfl,rfl,rfl⟩:=e;have l:=(dc oE).2;rw[AaB]at l;exact⟨oE.cell,o2.cell,oL.cell,o4.cell,l⟩
theorem VC.link{h H:AH}{b:Nat}{bs:List Int}{v:ar}{wE w2 wL w4:AV}{f:List Nat}(x:VC h H b bs v wE w2 wL w4 f)(hbl:b<h.length){k:Nat}(hk:k<v.aq.length):∃bL gL n row f0,fh 7 wL (k:Int)=some (.gp bL gL n)∧(∀(e:List AV) (L:List (List AV)),(St.mk e L H).cells (.gp bL gL n) 7=some row)∧
 aM H row v.aq[k].cd f0∧f0.Nodup∧∀(H4:AH) (row':List AV) (l':aF) (f':List Nat),cQ H H4→aM H4 row' l'.cd f'→f'.Nodup→(∀c∈f',c∈f0∨H.length≤c)→
  ∃H5 f5,(∀(e:List AV) (L:List (List AV)),(St.mk e L H4).store (.gp bL gL n) row'=some ⟨e,L,H5⟩)∧VC h H5 b bs { v with aq:=v.aq.set k l' } wE w2 wL w4 f5:=by
 obtain⟨_,_,_,_,fE,f2,fL,f4,e,rfl,oE,o2,oL,o4⟩:=kJ x.own;simp only[List.cons.injEq,true_and,and_true]at e;obtain⟨rfl,rfl,rfl,rfl⟩:=e;obtain⟨nE,n1,q1⟩:=Aak.1 x.nd;obtain⟨n2,n3,q2⟩:=Aak.1 n1;obtain⟨nL,n4,q3⟩:=Aak.1 n3;have hkm:k<(v.aq.map aF.cd).length:=by simpa using hk
 obtain⟨bL,gL,pre,rowL,post,fL0,iL,mL,lL,oLr,nLr,sLr,bmL,bnL,close⟩:=oL.sw nL hkm;rw[Aay]at oLr;refine⟨bL,gL,pre.length,rowL,fL0,iL,fun e L=>by rw[mL.sH e L 7 (by omega)];exact sA lL,oLr,nLr,fun H4 row' l' f' eg o' n' b'=>?_⟩;have vlt:=x.own.lt;have hfL:∀c∈fL,c<H.length:=fun c hc=>vlt c (by simp[hc]);have hbq:=hfL bL bmL;have rl:row'.length=7:=by rw[o'.len];rfl
 have m4:pj H4 bL gL pre _ post:=mL.frame (eg.fr bL hbq);obtain⟨H5,s5,m5,l5,r5⟩:=m4.store (i:=0) (vs:=row') (by rw[rl,lL];exact Aau 7) o'.bM;rw[Nat.add_zero]at s5;have ov:c8 rowL 0 row'=row':=by simp[c8,rl,lL]
 rw[ov]at m5;have lx:=eg.len;have nb:∀c∈f',c≠bL:=fun c hc e=>by
  rcases b' c hc with g|g
  ·exact bnL (e▸g)
  ·omega
 have o5:=o'.frame (h':=H5) fun c hc=>r5 c (nb c hc);obtain⟨fL',oL5,nL5,mL5⟩:=close H5 _ l'.cd f' o5 n' rfl (fun c hc=>(b' c hc).imp id fun g hm=>by have:=hfL c hm;omega) m5 (fun c hc hcf hcb=>by rw[r5 c hcb];exact eg.fr c (hfL c hc));rw[←AaE]at oL5;have mf:∀c∈fL',c∈fL∨H.length≤c:=fun c hc=>by
  rcases mL5 c hc with g|g
  ·exact .inl g
  ·exact(b' c g).imp (sLr c) id
 have oth:∀c,c∈fE∨c∈f2∨c∈f4→H5[c]? = H[c]?∧c∉fL':=fun c hc=>by
  have hl:c<H.length:=vlt c (by rcases hc with g|g|g<;>simp[g]);have hn:c∉fL:=fun g=>by
   rcases hc with q|q|q
   ·exact q1 c q c (by simp[g]) rfl
   ·exact q2 c q c (by simp[g]) rfl
   ·exact q3 c g c q rfl
  refine⟨by rw[r5 c (fun e=>hn (e▸bmL)),eg.fr c hl],fun g=>?_⟩;rcases mf c g with q|q
  ·exact hn q
  ·omega
 have hL:=x.dr.len;have bbL:=x.bf bL (by simp[bmL]);refine⟨H5,fE++(f2++(fL'++f4)),s5,Zb (v:={ v with aq:=v.aq.set k l' }) (oE.frame fun c hc=>(oth c (.inl hc)).1) (o2.frame fun c hc=>(oth c (.inr (.inl hc))).1) oL5 (o4.frame fun c hc=>(oth c (.inr (.inr hc))).1),?_,fun c hc=>?_,?_⟩
 ·refine Aak.2 ⟨nE,Aak.2 ⟨n2,Aak.2 ⟨nL5,n4,fun c hc d hd e=>(oth d (.inr (.inr hd))).2 (e▸hc)⟩,fun c hc d hd e=>?_⟩,fun c hc d hd e=>?_⟩
  ·subst e;rcases Aad.1 hd with g|g
   ·exact(oth c (.inr (.inl hc))).2 g
   ·exact q2 c hc c (by simp[g]) rfl
  ·subst e;rcases Aad.1 hd with g|g
   ·exact q1 c hc c (by simp[g]) rfl
   ·rcases Aad.1 g with g|g
    ·exact(oth c (.inl hc)).2 g
    ·exact q1 c hc c (by simp[g]) rfl
 ·simp only[Aad]at hc;rcases hc with g|g|g|g
  ·exact x.bf c (by simp[g])
  ·exact x.bf c (by simp[g])
  ·rcases mf c g with q|q
   ·exact x.bf c (by simp[q])
   ·omega
  ·exact x.bf c (by simp[g])
 ·obtain⟨i,s,hi,hg⟩:=x.dr.cur;refine⟨⟨i,s,hi,by rw[bc (r5 b (fun e=>bbL.2 e.symm)),bc (eg.fr b (by omega))];exact hg⟩,by omega,fun c h1 h2=>?_⟩;rw[r5 c (by omega),eg.fr c (by omega),x.dr.fr c h1 h2]
theorem FW.ok{k j:Nat}{v:ar}(d:FW k j v):v.ok 1048576:=d.vi.Gt.mono (by have:=d.w;omega)
theorem Jr{m:Nat}(h1:m<1000000):IntKind.i64.wrap (((m+1:Nat):Int)-1)=(m:Int):=by rw[jO (by omega) (by omega)];omega
def tH(st k n peer pos:Int):aA:=⟨2,0,[],st,⟨k,n⟩,[],[],peer,pos,0,0⟩
theorem zr(H:AH)(st k n peer pos:Int):aM H [.int .i64 2,.int .i64 0,.nils,.int .i64 st,.int .i64 k,.int .i64 n,.nils,.nils,.int .i64 peer,.int .i64 pos,.int .i64 0,.int .i64 0] (tH st k n peer pos).cd []:=.i (.i (.o (.nil _) (.i (.i (.i (.o (.nil _) (.o (.nil _) (.i (.i (.i (.i .nil)))))))))))
abbrev z12:List AV:=[.int .i64 0,.int .i64 0,.nils,.int .i64 0,.int .i64 0,.int .i64 0,.nils,.nils,.int .i64 0,.int .i64 0,.int .i64 0,.int .i64 0]
abbrev pR(st k n peer pos:Int):List AV:=[.int .i64 2,.int .i64 0,.nils,.int .i64 st,.int .i64 k,.int .i64 n,.nils,.nils,.int .i64 peer,.int .i64 pos,.int .i64 0,.int .i64 0]
abbrev z5:List AV:=[.int .i64 0,.nils,.nils,.nils,.nils]
theorem Ge{e:List AV}{h:AH}{id i':Int}{a b c d a' b' c' d':AV}{X Y:List (List AV)}(ha:cn a'=true)(hb:cn b'=true)(hc:cn c'=true)(hd:cn d'=true):
 (St.mk e (LL z5 [.int .i64 id,a,b,c,d] X++Y) h).store (.lp (([]:List (List AV)).length+1) 0) [.int .i64 i',a',b',c',d']=some ⟨e,LL z5 [.int .i64 i',a',b',c',d'] X++Y,h⟩:=
 Es (by simp) (by simp only[Aaf,Aag,ha,hb,hc,hd];rfl)
theorem KN{e:List AV}{h:AH}{id i':Int}{a b c d a' b' c' d':AV}{X:List (List AV)}(ha:cn a'=true)(hb:cn b'=true)(hc:cn c'=true)(hd:cn d'=true):
 (St.mk e (LL z5 [.int .i64 id,a,b,c,d] X) h).store (.lp (([]:List (List AV)).length+1) 0) [.int .i64 i',a',b',c',d']=some ⟨e,LL z5 [.int .i64 i',a',b',c',d'] X,h⟩:=
 Ho (by simp) (by simp only[Aaf,Aag,ha,hb,hc,hd];rfl)
set_option maxHeartbeats 8000000 in
set_option maxRecDepth 100000 in
theorem kcy_T(h:AH){b:Nat}{bs:List Int}(hb:bs.length≤1073741824)(hc:w9 h b bs):T Tryz.prog Γ Fn.kcy [.gp b 0 0] h fun r H'=>∃v wE w2 wL w4 f,r=.agg [.int .i64 v.id,wE,w2,wL,w4]∧FW 0 0 v∧VC h H' b bs v wE w2 wL w4 f:=by
 have hbl:b<h.length:=by obtain⟨_,_,_,hg⟩:=hc;exact eS hg
 refine Xw (aC aG mixed [] _ _ _ ?_);unfold Pm;simp only[au,Aaa,Aab,iy,cJ,cH,cI,bH,bJ,bI,bN,rp_2];refine al.ref (by simp only[EO]) (bt _ hb (hc.grow _) _) ?_;rintro _ H1 ⟨sc,rfl,_,_,q1⟩;replace q1:aP (h++[some (0,[AV.int .i64 2,.int .i64 3])]) H1 b bs:=q1;have o1:=(po h [2,3] rfl)
 have o1':=q1.own o1 (by simp only[Aae];omega);simp only[au,Aaa,Aab,iy,cJ,cH,cI,bH,bJ,bI,bN];refine al.own (by simp only[EO]) (aI (.same _) (aI (b9.fk (cd:=fun n:Int=>[CD.i .i64 n]) (c:=fun n:Int=>[AV.int .i64 n]) (fun n=>by simp[CD.mY]) o1') (aI (.same _) aZ))) (XH true 1 [2,3] (by simp) sc) ?_;rintro _ H2 fr;replace fr:aX H1 _ _ _:=fr;obtain⟨ac,f,rfl,o2,n2,b2,e2⟩:=fr.a1;obtain⟨wE,w2,wL,w4,fE,f2,fL,f4,rfl,rfl,_⟩:=kJ o2;have q2:aP h H2 b bs:=(aP.pE hc (cQ.app h _)).trans (q1.trans (.pE q1.cur e2));have l1:=q1.len;simp only[Aar,Aal,Aas]at l1;have x2:VC h H2 b bs (iM 1 [2,3] sc) wE w2 wL w4 (fE++(f2++(fL++f4))):=⟨o2,n2,fun c hc=>by have:=b2 c hc;omega,q2⟩
 obtain⟨⟨a1,a2,a3,a4⟩,⟨b1,b2,b3,b4⟩,⟨c1,c2,c3,c4⟩,⟨d1,d2,d3,d4⟩,lE⟩:=x2.cell;simp only[au,Aaa,Aab,iy,cJ,cH,cI,bH,bJ,bI,bN,a1,a2,a3,b1,b2,b3,c1,c2,c3,d1,d2,d3];refine al.ref (by simp only[EO]) (bt _ hb q2.cur _) ?_;rintro _ H3 ⟨td,rfl,cnt0,cnt1,q3⟩;replace q3:aP H2 H3 b bs:=q3;have x3:=x2.draw q3;replace cnt1:=cnt1 (by omega);obtain⟨k0,rfl⟩:∃k0:Nat,td=k0:=⟨td.toNat,by omega⟩
 have ds0:FW k0 k0 (iM 1 [2,3] sc):=by
  have d:=Lt sc;exact⟨d.vi,by have:=d.w;omega,by have:=d.el;omega,d.lk,d.kd,d.ne,fun l hl=>(d.li l hl).mono (by omega),d.nq,d.nn⟩
 simp only[au,Aaa,Aab,iy,cJ,cH,cI,bH,bJ,bI,bN];refine fD aG mixed [] (fun x:Nat×ar×AV×AV×AV×AV×List Nat×AH×List (List AV)=>x.1≤4∧FW x.1 x.1 x.2.1∧VC h x.2.2.2.2.2.2.2.1 b bs x.2.1 x.2.2.1 x.2.2.2.1 x.2.2.2.2.1 x.2.2.2.2.2.1 x.2.2.2.2.2.2.1) (fun x=>x.1)
  (fun x=>Gw (.gp b 0 0) (.lp ([]:List (List AV)).length 0) (.lp (([]:List (List AV)).length+1) 0) (.int .i64 x.1) (LL z5 [.int .i64 x.2.1.id,x.2.2.1,x.2.2.2.1,x.2.2.2.2.1,x.2.2.2.2.2.1] x.2.2.2.2.2.2.2.2) x.2.2.2.2.2.2.2.1) (k0,iM 1 [2,3] sc,wE,w2,wL,w4,_,H3,[]) ⟨by simp only;omega,ds0,x3⟩ ⟨by simp[Gw,gW,gM],rfl,rfl⟩ ?_
 rintro⟨k,v,wE,w2,wL,w4,f,Hi,X⟩ ⟨hk,ds,xi⟩;simp only at hk ds xi;obtain⟨⟨a1,a2,a3,a4⟩,⟨b1,b2,b3,b4⟩,⟨c1,c2,c3,c4⟩,⟨d1,d2,d3,d4⟩,lE⟩:=xi.cell;simp only[au,Aaa,Aab,iy,cJ,cH,cI,bH,bJ,bI,Gw,bN];refine bz (fun hgt=>?_) (fun hge=>?_);rotate_left
 ·have hge:k=0:=by simp at hge;omega
  subst hge;simp only[au,Aaa,Aab,iy,cJ,cH,cI,bH,bJ,bI,bN];refine al.ref (by simp only[EO]) (uv _ hb xi.dr.cur _) ?_;rintro _ H2' ⟨on,rfl,q2'⟩;replace q2':aP Hi H2' b bs:=q2';have x2':=xi.draw q2';have st0:∀(e:List AV) (h:AH),(St.mk e (LL z5 [.int .i64 v.id,wE,w2,wL,w4] X) h).store (.lp (([]:List (List AV)).length) 0) [.int .i64 v.id,wE,w2,wL,w4]=some ⟨e,LL [.int .i64 v.id,wE,w2,wL,w4] [.int .i64 v.id,wE,w2,wL,w4] X,h⟩:=fun e h=>BJ (by simp) (by simp only[Aaf,Aag,a2,b2,c2,d2];rfl);cases on
  ·simp only[au,Aaa,Aab,iy,cJ,cH,cI,bH,bJ,bI,bN,gj,cg,a1,a2,a3,b1,b2,b3,c1,c2,c3,d1,d2,d3,st0];exact⟨by simp only[cY,EO,a3,a4,b3,b4,c3,c4,d3,d4],v,wE,w2,wL,w4,f,rfl,ds,x2'⟩
  ·obtain⟨bL,gL,nn,row,f0,i1,r1,oR,nR,wr⟩:=x2'.link hbl (k:=1) (by rw[ds.lk];omega);have i1':=TS i1;obtain⟨H5,f5,s5,x5⟩:=wr H2' [.int .i64 3,.bool false,.nils,.int .i64 0,.nils,.int .i64 0,.nils] ⟨3,false,[],0,[],0,[]⟩ [] (cQ.refl _) (.i (.b (.o (.nil _) (.i (.o (.nil _) (.i (.o (.nil _) .nil))))))) (by simp) (fun c hc=>by cases hc);have dd:FW 0 0 { v with aq:=v.aq.set 1 ⟨3,false,[],0,[],0,[]⟩ }:=by
    refine⟨qg ds.vi 1 _ (Aam _),?_,ds.el,by simp[ds.lk],ds.kd,ds.ne,fun l hl=>by
     rcases Aac hl with g|g
     ·exact ds.li l g
     ·rw[g];exact⟨by simp,by simp,by simp,by simp,by simp,by simp,by simp,by simp⟩,ds.nq,fun l hl=>by
     rcases Aac hl with g|g
     ·exact ds.nn l g
     ·rw[g];exact⟨fun x hx=>(by cases hx),fun x hx=>(by cases hx)⟩⟩
    have:=sj (v:=v) 1 ⟨3,false,[],0,[],0,[]⟩ (c:=0) (by simp[xK]);have hw:=ds.w;show wV (dU v 1 _)+0≤12
    omega
   simp only[au,Aaa,Aab,iy,cJ,cH,cI,bH,bJ,bI,bN,gj,cg,a1,a2,a3,b1,b2,b3,c1,c2,c3,d1,d2,d3,st0,i1',s5];exact⟨by simp only[cY,EO,a3,a4,b3,b4,c3,c4,d3,d4],{ v with aq:=v.aq.set 1 ⟨3,false,[],0,[],0,[]⟩ },wE,w2,wL,w4,f5,rfl,dd,x5⟩
 have hgt:0<k:=by simp at hgt;omega
 obtain⟨m,rfl⟩:∃m,k=m+1:=⟨k-1,by omega⟩
 simp only[au,Aaa,Aab,iy,cJ,cH,cI,bH,bJ,bI,bN];refine al.ref (by simp only[EO]) (bt _ hb xi.dr.cur _) ?_;rintro _ H1' ⟨n,rfl,n0,n1,q1'⟩;replace q1':aP Hi H1' b bs:=q1';have x1':=xi.draw q1';by_cases n_0:n=0
 ·simp only[au,Aaa,Aab,iy,cJ,cH,cI,bH,bJ,bI,bN,ae,cg,gz,fY,a1,a2,a3,b1,b2,b3,c1,c2,c3,d1,d2,d3,lE,aR n_0];refine al.ref (by simp only[EO]) (bt _ hb x1'.dr.cur _) ?_;rintro _ Ha ⟨sa,rfl,sa_0,sa_1,qa⟩;replace qa:aP H1' Ha b bs:=qa;have xHa:=x1'.draw qa;simp only[au,Aaa,Aab,iy,cJ,cH,cI,bH,bJ,bI,bN,cg,gz,fY,kD,mh,a1,a2,a3,b1,b2,b3,c1,c2,c3,d1,d2,d3,lE];try refine⟨fun r hr n cs hc=>by rw[show r=3 by simpa using hr]at hc ⊢;exact hc,?_⟩
  refine al.ref (by simp only[EO]) (bt _ hb xHa.dr.cur _) ?_;rintro _ Hb ⟨sb,rfl,sb_0,sb_1,qb⟩;replace qb:aP Ha Hb b bs:=qb;have xHb:=xHa.draw qb;simp only[au,Aaa,Aab,iy,cJ,cH,cI,bH,bJ,bI,bN,cg,gz,fY,kD,mh,a1,a2,a3,b1,b2,b3,c1,c2,c3,d1,d2,d3,lE];try refine⟨fun r hr n cs hc=>by rw[show r=3 by simpa using hr]at hc ⊢;exact hc,?_⟩
  refine al.ref (by simp only[EO]) (KH _ _) ?_;rintro _ H4 ⟨⟨z,rfl⟩,e⟩;replace e:H4=Hb:=e;subst e;simp only[au,Aaa,Aab,iy,cJ,cH,cI,bH,bJ,bI,bN,cg,gz,fY,kD,mh,a1,a2,a3,b1,b2,b3,c1,c2,c3,d1,d2,d3,lE,an.c];try refine⟨fun r hr n cs hc=>by rw[show r=3 by simpa using hr]at hc ⊢;exact hc,?_⟩
  try refine⟨Mem.heap ⟨_,_,_⟩ _ _,?_⟩
  have xh:=xHb.ext (cQ.app H4 [some (0,[AV.int .i64 0,.int .i64 z])]);have ov:=xQ H4 (sz:=2) (ys:=[AV.int .i64 0,.int .i64 z]) (row:=(an.mk 0 z).cd) (f2:=[]) rfl (.i (.i .nil));refine al.own (by simp only[EO]) (aI (.same _) (aI (b9.fk (l:=[an.mk 0 z]) (an.bO true) ov) aZ)) (Pb true sa [⟨0,z⟩] (by simp)) ?_;rintro _ H5 fr;replace fr:aX (H4++[some (0,[AV.int .i64 0,.int .i64 z])]) _ _ _:=fr;obtain⟨ac,fe,rfl,oe,ne,be,ee⟩:=fr.a1;have x5':=xh.ext ee;obtain⟨wS,wQ,wA,fS,fQ,fA,rfl,rfl,oS,oQ,oA⟩:=c5 oe;obtain⟨y1,y2,y3,y4⟩:=oS.cell;obtain⟨y5,y6,y7,y8⟩:=oQ.cell;obtain⟨y9,ya,yb,yc⟩:=oA.cell;simp only[au,Aaa,Aab,iy,cJ,cH,cI,bH,bJ,bI,bN,cg,gz,fY,kD,mh,a1,a2,a3,b1,b2,b3,c1,c2,c3,d1,d2,d3,lE,y1,y2,y3,y5,y6,y7,y9,ya,yb];try refine⟨fun r hr n cs hc=>by rw[show r=3 by simpa using hr]at hc ⊢;exact hc,?_⟩
  refine zV x5' hbl ds.ok (e:=jh sa [⟨0,z⟩]) (by simp[aA.ok,jh]) (oe) (by simp only[Aaf,Aag,EO,a3,b3,c3,d3,uz,pG,y3,y7,yb]) ?_;intro wE' w2' wL' w4' f' H' n' xx;obtain⟨⟨aa1,aa2,aa3,aa4⟩,⟨bb1,bb2,bb3,bb4⟩,⟨cc1,cc2,cc3,cc4⟩,⟨dd1,dd2,dd3,dd4⟩,_⟩:=xx.cell;have s5:=fun e h=>KN (e:=e) (h:=h) (id:=v.id) (i':=(dv v (jh sa [⟨0,z⟩])).id) (a:=wE) (b:=w2) (c:=wL) (d:=w4) (X:=X) aa2 bb2 cc2 dd2;simp only[au,Aaa,Aab,iy,cJ,cH,cI,bH,bJ,bI,bN,cg,gz,fY,kD,mh,a1,a2,a3,b1,b2,b3,c1,c2,c3,d1,d2,d3,lE,aa1,aa2,aa3,bb1,bb2,bb3,cc1,cc2,cc3,dd1,dd2,dd3,s5];exact⟨(m,dv v (jh sa [⟨0,z⟩]),wE',w2',wL',w4',f',H',X),⟨by simp only;omega,ds.vD.add (by simp[jh]) rfl rfl (.inl rfl),xx⟩,by simp only;omega,⟨by rw[Jr (by omega)];simp[gW,gM],rfl,rfl⟩⟩
 by_cases n_1:n=1
 ·simp only[au,Aaa,Aab,iy,cJ,cH,cI,bH,bJ,bI,bN,ae,cg,gz,fY,a1,a2,a3,b1,b2,b3,c1,c2,c3,d1,d2,d3,lE,aW n_0,aR n_1];refine al.val (by simp only[EO]) (ID _) ?_;simp only[au,Aaa,Aab,iy,cJ,cH,cI,bH,bJ,bI,bN];try refine⟨fun r hr n cs hc=>by rw[show r=3 by simpa using hr]at hc ⊢;exact hc,?_⟩
  refine zV x1' hbl ds.ok (e:=jF) (by simp[aA.ok,jF]) (Gd _) (by simp only[Aaf,Aag,EO,a3,b3,c3,d3,uz,pG]) ?_;intro wE' w2' wL' w4' f' H' n' xx;obtain⟨⟨aa1,aa2,aa3,aa4⟩,⟨bb1,bb2,bb3,bb4⟩,⟨cc1,cc2,cc3,cc4⟩,⟨dd1,dd2,dd3,dd4⟩,_⟩:=xx.cell;have s5:=fun e h=>KN (e:=e) (h:=h) (id:=v.id) (i':=(dv v (jF)).id) (a:=wE) (b:=w2) (c:=wL) (d:=w4) (X:=X) aa2 bb2 cc2 dd2;simp only[au,Aaa,Aab,iy,cJ,cH,cI,bH,bJ,bI,bN,cg,gz,fY,kD,mh,a1,a2,a3,b1,b2,b3,c1,c2,c3,d1,d2,d3,lE,aa1,aa2,aa3,bb1,bb2,bb3,cc1,cc2,cc3,dd1,dd2,dd3,s5];exact⟨(m,dv v (jF),wE',w2',wL',w4',f',H',X),⟨by simp only;omega,ds.vD.add (Aam _) rfl rfl (.inr (.inl rfl)),xx⟩,by simp only;omega,⟨by rw[Jr (by omega)];simp[gW,gM],rfl,rfl⟩⟩
 by_cases n_2:n=2
 ·simp only[au,Aaa,Aab,iy,cJ,cH,cI,bH,bJ,bI,bN,ae,cg,gz,fY,a1,a2,a3,b1,b2,b3,c1,c2,c3,d1,d2,d3,lE,aW n_0,aW n_1,aR n_2];refine al.val (by simp only[EO]) (ID _) ?_;have t0:∀(e:List AV) (h:AH),(St.mk e (LL z5 [.int .i64 v.id,wE,w2,wL,w4] X++[z12]) h).store (.lp (X.length+2) 0) (pR 1 0 0 0 0)=some ⟨e,LL z5 [.int .i64 v.id,wE,w2,wL,w4] X++[pR 1 0 0 0 0],h⟩:=fun e h=>uP (by simp) rfl;have t1:∀(e:List AV) (h:AH),(St.mk e (LL z5 [.int .i64 v.id,wE,w2,wL,w4] X++[pR 1 0 0 0 0]) h).store (.lp (X.length+2) 3) [.int .i64 2]=some ⟨e,LL z5 [.int .i64 v.id,wE,w2,wL,w4] X++[pR 2 0 0 0 0],h⟩:=fun e h=>uP (by simp) rfl;have t2:∀(e:List AV) (h:AH) (a c a' c':Int),(St.mk e (LL z5 [.int .i64 v.id,wE,w2,wL,w4] X++[pR 2 a c 0 0]) h).store (.lp (X.length+2) 4) [.int .i64 a',.int .i64 c']=some ⟨e,LL z5 [.int .i64 v.id,wE,w2,wL,w4] X++[pR 2 a' c' 0 0],h⟩:=fun e h a c a' c'=>uP (by simp) rfl;simp only[au,Aaa,Aab,iy,cJ,cH,cI,bH,bJ,bI,bN,cg,gz,fY,kD,mh,a1,a2,a3,b1,b2,b3,c1,c2,c3,d1,d2,d3,lE,uz,t0,t1];refine al.ref (by simp only[EO]) (bt _ hb x1'.dr.cur _) ?_;rintro _ Ha ⟨sa,rfl,sa_0,sa_1,qa⟩;replace qa:aP H1' Ha b bs:=qa;have xHa:=x1'.draw qa;simp only[au,Aaa,Aab,iy,cJ,cH,cI,bH,bJ,bI,bN,cg,gz,fY,kD,mh,a1,a2,a3,b1,b2,b3,c1,c2,c3,d1,d2,d3,lE];refine al.val (by simp only[EO]) (Az _ _) ?_;simp only[au,Aaa,Aab,iy,cJ,cH,cI,bH,bJ,bI,bN,cg,gz,fY,kD,mh,a1,a2,a3,b1,b2,b3,c1,c2,c3,d1,d2,d3,lE,an.c,t2];refine al.ref (by simp only[EO]) (uv _ hb xHa.dr.cur _) ?_;rintro _ Hb ⟨on,rfl,qb⟩;replace qb:aP Ha Hb b bs:=qb;have xHb:=xHa.draw qb;cases on
  ·simp only[au,Aaa,Aab,iy,cJ,cH,cI,bH,bJ,bI,bN,cg,gz,fY,kD,mh,a1,a2,a3,b1,b2,b3,c1,c2,c3,d1,d2,d3,lE];refine zV xHb hbl ds.ok (e:=tH 2 1 sa 0 0) (by simp[aA.ok,tH]) (zr _ _ _ _ _ _) (by simp only[Aaf,Aag,EO,a3,b3,c3,d3,uz,pG]) ?_;intro wE' w2' wL' w4' f' H' n' xx;obtain⟨⟨aa1,aa2,aa3,aa4⟩,⟨bb1,bb2,bb3,bb4⟩,⟨cc1,cc2,cc3,cc4⟩,⟨dd1,dd2,dd3,dd4⟩,_⟩:=xx.cell;have s5:=fun e h=>Ge (e:=e) (h:=h) (id:=v.id) (i':=(dv v (tH 2 1 sa 0 0)).id) (a:=wE) (b:=w2) (c:=wL) (d:=w4) (X:=X) (Y:=[pR 2 1 sa 0 0]) aa2 bb2 cc2 dd2;simp only[au,Aaa,Aab,iy,cJ,cH,cI,bH,bJ,bI,bN,cg,gz,fY,kD,mh,a1,a2,a3,b1,b2,b3,c1,c2,c3,d1,d2,d3,lE,aa1,aa2,aa3,bb1,bb2,bb3,cc1,cc2,cc3,dd1,dd2,dd3,s5];exact⟨(m,dv v (tH 2 1 sa 0 0),wE',w2',wL',w4',f',H',X++[pR 2 1 sa 0 0]),⟨by simp only;omega,ds.vD.add (Aam _) rfl rfl (.inr (.inl rfl)),xx⟩,by simp only;omega,⟨by rw[Jr (by omega)];simp[gW,gM],rfl,rfl⟩⟩
  ·simp only[au,Aaa,Aab,iy,cJ,cH,cI,bH,bJ,bI,bN,cg,gz,fY,kD,mh,a1,a2,a3,b1,b2,b3,c1,c2,c3,d1,d2,d3,lE];refine al.ref (by simp only[EO]) (bt _ hb xHb.dr.cur _) ?_;rintro _ Hc ⟨sc2,rfl,sc2_0,sc2_1,qc⟩;replace qc:aP Hb Hc b bs:=qc;have xHc:=xHb.draw qc;simp only[au,Aaa,Aab,iy,cJ,cH,cI,bH,bJ,bI,bN,cg,gz,fY,kD,mh,a1,a2,a3,b1,b2,b3,c1,c2,c3,d1,d2,d3,lE];refine al.ref (by simp only[EO]) (KH _ _) ?_;rintro _ H4 ⟨⟨z,rfl⟩,e⟩;replace e:H4=Hc:=e;subst e;simp only[au,Aaa,Aab,iy,cJ,cH,cI,bH,bJ,bI,bN,cg,gz,fY,kD,mh,a1,a2,a3,b1,b2,b3,c1,c2,c3,d1,d2,d3,lE,an.c,t2];refine zV xHc hbl ds.ok (e:=tH 2 0 z 0 0) (by simp[aA.ok,tH]) (zr _ _ _ _ _ _) (by simp only[Aaf,Aag,EO,a3,b3,c3,d3,uz,pG]) ?_;intro wE' w2' wL' w4' f' H' n' xx;obtain⟨⟨aa1,aa2,aa3,aa4⟩,⟨bb1,bb2,bb3,bb4⟩,⟨cc1,cc2,cc3,cc4⟩,⟨dd1,dd2,dd3,dd4⟩,_⟩:=xx.cell;have s5:=fun e h=>Ge (e:=e) (h:=h) (id:=v.id) (i':=(dv v (tH 2 0 z 0 0)).id) (a:=wE) (b:=w2) (c:=wL) (d:=w4) (X:=X) (Y:=[pR 2 0 z 0 0]) aa2 bb2 cc2 dd2;simp only[au,Aaa,Aab,iy,cJ,cH,cI,bH,bJ,bI,bN,cg,gz,fY,kD,mh,a1,a2,a3,b1,b2,b3,c1,c2,c3,d1,d2,d3,lE,aa1,aa2,aa3,bb1,bb2,bb3,cc1,cc2,cc3,dd1,dd2,dd3,s5];exact⟨(m,dv v (tH 2 0 z 0 0),wE',w2',wL',w4',f',H',X++[pR 2 0 z 0 0]),⟨by simp only;omega,ds.vD.add (Aam _) rfl rfl (.inr (.inl rfl)),xx⟩,by simp only;omega,⟨by rw[Jr (by omega)];simp[gW,gM],rfl,rfl⟩⟩
 by_cases n_3:n=3
 ·simp only[au,Aaa,Aab,iy,cJ,cH,cI,bH,bJ,bI,bN,ae,cg,gz,fY,a1,a2,a3,b1,b2,b3,c1,c2,c3,d1,d2,d3,lE,aW n_0,aW n_1,aW n_2,aR n_3];refine al.ref (by simp only[EO]) (bt _ hb x1'.dr.cur _) ?_;rintro _ Ha ⟨sa,rfl,sa_0,sa_1,qa⟩;replace qa:aP H1' Ha b bs:=qa;have xHa:=x1'.draw qa;replace sa_1:=sa_1 (by omega);obtain⟨j,rfl⟩:∃j:Nat,sa=j:=⟨sa.toNat,by omega⟩
  have hj:j<v.aq.length:=by rw[ds.lk];omega
  obtain⟨bL,gL,nn,row,f0,i1,r1,oR,nR,wr⟩:=xHa.link hbl hj;obtain⟨l,hl⟩:∃l,l=v.aq[j]:=⟨_,rfl⟩
  rw[←hl]at oR;have Cu:l.ok 1048576:=by rw[hl];exact(ds.vi.Cu _ (Aai hj)).mono (by have:=ds.w;omega)
  obtain⟨wX,wQ',wA',fX,fq,fa,rfl,rfl,oX,oQq,oAa⟩:=ck oR;obtain⟨y1,y2,y3,y4⟩:=oX.cell;obtain⟨y5,y6,y7,y8⟩:=oQq.cell;obtain⟨y9,ya,yb,yc⟩:=oAa.cell;simp only[au,Aaa,Aab,iy,cJ,cH,cI,bH,bJ,bI,bN,cg,gz,fY,kD,mh,a1,a2,a3,b1,b2,b3,c1,c2,c3,d1,d2,d3,lE,y1,y2,y3,y5,y6,y7,y9,ya,yb,i1,r1];refine al.own (by simp only[EO,y3,y7,yb]) (aI (aM.fk (aF.bO true l) oR) (aI (.same _) aZ)) (fun h=>OL true l Cu _ h) ?_;rintro _ H4 fr;replace fr:aX Ha _ _ _:=fr;obtain⟨row',f',rfl,o',n',b',eg⟩:=fr.a2 rfl;obtain⟨lk,hlk⟩:∃lk,lk=(lO l (v.entities.length:Int)).1:=⟨_,rfl⟩
  obtain⟨qq,hqq⟩:∃qq,qq=(lO l (v.entities.length:Int)).2:=⟨_,rfl⟩
  rw[←hlk]at o';obtain⟨H5,f5,s5',x5⟩:=wr H4 row' lk f' eg o' n' (fun c hc=>.inr (b' c hc));obtain⟨wX2,wQ2,wA2,_,_,_,rfl,_,oX2,oQ2,oA2⟩:=ck o';obtain⟨z1,z2,z3,z4⟩:=oX2.cell;obtain⟨z5',z6,z7,z8⟩:=oQ2.cell;obtain⟨z9,za,zb,zc⟩:=oA2.cell;have sx:∀(e:List AV) (h:AH),(St.mk e (LL z5 [.int .i64 v.id,wE,w2,wL,w4] X++[[.int .i64 0,.bool false,.nils,.int .i64 0,.nils,.int .i64 0,.nils]]) h).store (.lp (X.length+2) 0) [.int .i64 lk.peer,.bool lk.up,wX2,.int .i64 lk.next,wQ2,.int .i64 lk.asked,wA2]=some ⟨e,LL z5 [.int .i64 v.id,wE,w2,wL,w4] X++[[.int .i64 lk.peer,.bool lk.up,wX2,.int .i64 lk.next,wQ2,.int .i64 lk.asked,wA2]],h⟩:=fun e h=>uP (by simp) (by simp only[Aaf,Aag,z2,z6,za];rfl);simp only[au,Aaa,Aab,iy,cJ,cH,cI,bH,bJ,bI,bN,cg,gz,fY,kD,mh,a1,a2,a3,b1,b2,b3,c1,c2,c3,d1,d2,d3,lE,CD.mY,←hlk,←hqq,z1,z2,z3,z5',z6,z7,z9,za,zb,sx,i1,s5'];refine al.val (by simp only[EO]) (ID _) ?_;have t0:∀(e:List AV) (h:AH) (r0:List AV),(St.mk e (LL z5 [.int .i64 v.id,wE,w2,wL,w4] X++[r0,z12]) h).store (.lp (X.length+2+1) 0) (pR 1 0 0 0 0)=some ⟨e,LL z5 [.int .i64 v.id,wE,w2,wL,w4] X++[r0,pR 1 0 0 0 0],h⟩:=fun e h r0=>Ea (by simp) rfl;have t1:∀(e:List AV) (h:AH) (r0:List AV),(St.mk e (LL z5 [.int .i64 v.id,wE,w2,wL,w4] X++[r0,pR 1 0 0 0 0]) h).store (.lp (X.length+2+1) 3) [.int .i64 3]=some ⟨e,LL z5 [.int .i64 v.id,wE,w2,wL,w4] X++[r0,pR 3 0 0 0 0],h⟩:=fun e h r0=>Ea (by simp) rfl;have t2:∀(e:List AV) (h:AH) (r0:List AV) (a:Int),(St.mk e (LL z5 [.int .i64 v.id,wE,w2,wL,w4] X++[r0,pR 3 0 0 0 0]) h).store (.lp (X.length+2+1) 8) [.int .i64 a]=some ⟨e,LL z5 [.int .i64 v.id,wE,w2,wL,w4] X++[r0,pR 3 0 0 a 0],h⟩:=fun e h r0 a=>Ea (by simp) rfl;have t3:∀(e:List AV) (h:AH) (r0:List AV) (a c:Int),(St.mk e (LL z5 [.int .i64 v.id,wE,w2,wL,w4] X++[r0,pR 3 0 0 a 0]) h).store (.lp (X.length+2+1) 9) [.int .i64 c]=some ⟨e,LL z5 [.int .i64 v.id,wE,w2,wL,w4] X++[r0,pR 3 0 0 a c],h⟩:=fun e h r0 a c=>Ea (by simp) rfl;simp only[au,Aaa,Aab,iy,cJ,cH,cI,bH,bJ,bI,bN,cg,gz,fY,kD,mh,a1,a2,a3,b1,b2,b3,c1,c2,c3,d1,d2,d3,lE,uz,t0,t1,t2,t3,z1,z2,z3,z5',z6,z7,z9,za,zb];have ds':FW m (m+1) { v with aq:=v.aq.set j lk }:=ds.setL (i:=j) (l:=lk) (by
   have e:v.aq.getD j default=l:=by rw[Aap,Aaq hj,hl];rfl
   rw[e,hlk];simp[xK,lO];omega) (by rw[hlk,hl];exact(show v.aq[j].answers.length≤100 from ds.vi.ans _ (Aai hj))) (by rw[hlk,hl];exact(ds.li _ (Aai hj)).ask (by omega) _) (by rw[hlk,hl];exact(show NE v.aq[j] from ds.nn _ (Aai hj)))
  refine zV x5 hbl ds'.ok (e:=tH 3 0 0 lk.peer qq) (by simp[aA.ok,tH]) (zr _ _ _ _ _ _) (by simp only[Aaf,Aag,EO,a3,b3,c3,d3]) ?_;intro wE' w2' wL' w4' f' H' n' xx;obtain⟨⟨aa1,aa2,aa3,aa4⟩,⟨bb1,bb2,bb3,bb4⟩,⟨cc1,cc2,cc3,cc4⟩,⟨dd1,dd2,dd3,dd4⟩,_⟩:=xx.cell;have s5:=fun e h=>Ge (e:=e) (h:=h) (id:=v.id) (i':=(dv { v with aq:=v.aq.set j lk } (tH 3 0 0 lk.peer qq)).id) (a:=wE) (b:=w2) (c:=wL) (d:=w4) (X:=X) (Y:=[[.int .i64 lk.peer,.bool lk.up,wX2,.int .i64 lk.next,wQ2,.int .i64 lk.asked,wA2],pR 3 0 0 lk.peer qq]) aa2 bb2 cc2 dd2;simp only[au,Aaa,Aab,iy,cJ,cH,cI,bH,bJ,bI,bN,cg,gz,fY,kD,mh,a1,a2,a3,b1,b2,b3,c1,c2,c3,d1,d2,d3,lE,aa1,aa2,aa3,bb1,bb2,bb3,cc1,cc2,cc3,dd1,dd2,dd3,s5];exact⟨(m,dv { v with aq:=v.aq.set j lk } (tH 3 0 0 lk.peer qq),wE',w2',wL',w4',f',H',X++[[.int .i64 lk.peer,.bool lk.up,wX2,.int .i64 lk.next,wQ2,.int .i64 lk.asked,wA2],pR 3 0 0 lk.peer qq]),⟨by simp only;omega,ds'.add (Aam _) rfl rfl (.inr (.inl rfl)),xx⟩,by simp only;omega,⟨by rw[Jr (by omega)];simp[gW,gM],rfl,rfl⟩⟩
 simp only[au,Aaa,Aab,iy,cJ,cH,cI,bH,bJ,bI,bN,ae,cg,gz,fY,a1,a2,a3,b1,b2,b3,c1,c2,c3,d1,d2,d3,lE,aW n_0,aW n_1,aW n_2,aW n_3];refine al.ref (by simp only[EO]) (bt _ hb x1'.dr.cur _) ?_;rintro _ Ha ⟨sa,rfl,sa_0,sa_1,qa⟩;replace qa:aP H1' Ha b bs:=qa;have xHa:=x1'.draw qa;simp only[au,Aaa,Aab,iy,cJ,cH,cI,bH,bJ,bI,bN,cg,gz,fY,kD,mh,a1,a2,a3,b1,b2,b3,c1,c2,c3,d1,d2,d3,lE];try refine⟨fun r hr n cs hc=>by rw[show r=3 by simpa using hr]at hc ⊢;exact hc,?_⟩
 refine al.ref (by simp only[EO]) (bt _ hb xHa.dr.cur _) ?_;rintro _ Hb ⟨sb,rfl,sb_0,sb_1,qb⟩;replace qb:aP Ha Hb b bs:=qb;have xHb:=xHa.draw qb;simp only[au,Aaa,Aab,iy,cJ,cH,cI,bH,bJ,bI,bN,cg,gz,fY,kD,mh,a1,a2,a3,b1,b2,b3,c1,c2,c3,d1,d2,d3,lE];try refine⟨fun r hr n cs hc=>by rw[show r=3 by simpa using hr]at hc ⊢;exact hc,?_⟩
 refine al.val (by simp only[EO]) (Ks _ _ _) ?_;simp only[au,Aaa,Aab,iy,cJ,cH,cI,bH,bJ,bI,bN,cg,gz,fY,kD,mh,a1,a2,a3,b1,b2,b3,c1,c2,c3,d1,d2,d3,lE,pG];try refine⟨fun r hr n cs hc=>by rw[show r=3 by simpa using hr]at hc ⊢;exact hc,?_⟩
 refine zV xHb hbl ds.ok (e:=lC (IntKind.i64.wrap (2+sa)) (IntKind.i64.wrap (2+sb))) (by simp[aA.ok,lC]) (wu _ _ _) (by simp only[Aaf,Aag,EO,a3,b3,c3,d3,uz,pG]) ?_;intro wE' w2' wL' w4' f' H' n' xx;obtain⟨⟨aa1,aa2,aa3,aa4⟩,⟨bb1,bb2,bb3,bb4⟩,⟨cc1,cc2,cc3,cc4⟩,⟨dd1,dd2,dd3,dd4⟩,_⟩:=xx.cell;have s5:=fun e h=>KN (e:=e) (h:=h) (id:=v.id) (i':=(dv v (lC (IntKind.i64.wrap (2+sa)) (IntKind.i64.wrap (2+sb)))).id) (a:=wE) (b:=w2) (c:=wL) (d:=w4) (X:=X) aa2 bb2 cc2 dd2;simp only[au,Aaa,Aab,iy,cJ,cH,cI,bH,bJ,bI,bN,cg,gz,fY,kD,mh,a1,a2,a3,b1,b2,b3,c1,c2,c3,d1,d2,d3,lE,aa1,aa2,aa3,bb1,bb2,bb3,cc1,cc2,cc3,dd1,dd2,dd3,s5];exact⟨(m,dv v (lC (IntKind.i64.wrap (2+sa)) (IntKind.i64.wrap (2+sb))),wE',w2',wL',w4',f',H',X),⟨by simp only;omega,ds.vD.add (Aam _) rfl rfl (.inr (.inr rfl)),xx⟩,by simp only;omega,⟨by rw[Jr (by omega)];simp[gW,gM],rfl,rfl⟩⟩
def wE(v:ar):Nat:=(v.entities.map oq).sum
theorem wE_le(v:ar):wE v≤wV v:=by unfold wE wV;omega
def LB(K r:Nat)(v:ar):Prop:=∃N,(∀l∈v.aq,kv N l)∧N+wE v+r≤K∧v.aq.length=2
theorem LB.mono{K r r':Nat}{v:ar}(h:LB K r v)(hr:r'≤r):LB K r' v:=by
 obtain⟨N,h1,h2,h3⟩:=h;exact⟨N,h1,by omega,h3⟩
theorem LB.more{K r c:Nat}{v:ar}(h:LB K r v):LB (K+c) (r+c) v:=by
 obtain⟨N,h1,h2,h3⟩:=h;exact⟨N,h1,by omega,h3⟩
theorem LB.same{K r:Nat}{v v':ar}(h:LB K r v)(hl:v'.aq=v.aq)(he:v'.entities=v.entities):LB K r v':=by
 obtain⟨N,h1,h2,h3⟩:=h;exact⟨N,by rw[hl];exact h1,by unfold wE at *;rw[he];exact h2,by rw[hl];exact h3⟩
theorem LB.dU{K r:Nat}{v:ar}(h:LB K (r+1) v)(k:Nat)(l:aF)(hl:∀N,N+1≤K→(∀x∈v.aq,kv N x)→kv (N+1) l):LB K r (dU v k l):=by
 obtain⟨N,h1,h2,h3⟩:=h;refine⟨N+1,fun x hx=>?_,by show N+1+wE v+r≤K;omega,by simpa[Go.Proofs.YtolciaflplefcaaGreat.dU]using h3⟩;rcases Aac hx with g|g
 ·exact(h1 x g).mono (by omega)
 ·rw[g];exact hl N (by omega) h1
theorem kv.Ua:kv 0 (default:aF):=⟨⟨Aat _,Aat _⟩,⟨Aat _,Aat _⟩,fun x hx=>(by cases hx),List.Pairwise.nil,fun x hx=>(by cases hx),Aau _,Aau _,Aau _⟩
theorem kv.getD{N:Nat}{ls:List aF}(h:∀x∈ls,kv N x)(k:Nat):kv N (ls.getD k default):=by
 rw[Aap];cases hk:ls[k]? with
 | some l=>exact h l (List.mem_of_getElem? hk)
 | none=>exact kv.Ua.mono (Aam _)
theorem LB.vp{K r:Nat}{v:ar}(hK:K≤1000)(h:LB K (r+1) v)(peer:Int)(x:an):LB K r (bq v peer x).1:=by
 have w:=h.mono (r':=r) (by omega);unfold bq;split
 ·exact w
 ·split
  ·split
   ·exact w
   ·exact h.dU _ _ fun N hN hl=>(kv.getD hl _).put (by omega) _
  ·exact w
theorem LB.pU{K:Nat}(hK:K≤1000)(peer:Int):∀(l:List an) {r:Nat} {v:ar},LB K (r+l.length) v→LB K r (aQ v peer l).1
 | [],r,v,h=>h
 | x::l,r,v,h=>by
  simp only[aQ];exact LB.pU hK peer l (LB.vp hK (by simpa only[Aal,AaC]using h) peer x)
theorem LB.push{K r:Nat}{v:ar}(h:LB K r v)(p:Int)(m:ah):LB K r (e8 v p m):=by
 unfold e8;split
 ·exact h.same rfl rfl
 ·exact h
theorem LB.ask{K r:Nat}{v:ar}(hK:K≤1000)(h:LB K (r+1) v)(peer p:Int):LB K r (oP v peer p):=
 h.dU _ _ fun N hN hl=>(kv.getD hl _).ask (by omega) _
theorem LB.cT{K r r':Nat}{v:ar}(h:LB K r v){n:Int}(hn:bB n v.entities.length=true)(e:aA)(hw:r'+oq e≤r+oq (aD v n)):LB K r' (cT v n.toNat e):=by
 obtain⟨N,h1,h2,h3⟩:=h;refine⟨N,h1,?_,h3⟩;obtain⟨k,hk,_,e2,e3⟩:=cL hn;have:=wF oq v.entities k e hk;rw[e3]at hw;rw[e2];unfold wE at *;show N+(List.map oq (v.entities.set k e)).sum+r'≤K
 omega
theorem LB.call{K r:Nat}{v:ar}{s:aK}{peer pos ans:Int}(hK:K≤1000)(hc:dT v s peer=true)(h:LB K (r+(2+s.args.length)) v):LB K (r+sM (aD v s.result).queue) (fW v s peer pos ans):=by
 obtain⟨_,h2,h3,h4⟩:=xF hc;have w1:=(uf v s peer).1;have a1:=(uo (cm v s peer) peer s.result).1;have sm:=w1.trans a1;have l1:LB K (r+2) (cm v s peer):=LB.pU hK peer s.args (by simpa only[AaC]using h);have l2:=LB.ask (r:=r+1) hK l1 peer s.result;have hl:bB s.result (oP (cm v s peer) peer s.result).entities.length=true:=by rw[sm.fH];exact h2
 have e0:=sm.aD s.result;refine LB.push (LB.cT l2 hl _ ?_) _ _;rw[e0];have g1:oq (kT (aD v s.result) peer (sW (cm v s peer) peer s.result))+sM (aD v s.result).queue=oq (aD v s.result):=by simp[oq,kT,sM];omega
 omega
def K4(D:ar→aK→ar):Prop:=∀K r v s,K≤1000→LB K (r+(2+s.args.length)) v→LB K r (D v s)
theorem K4.fold{D:ar→aK→ar}(h:K4 D){K:Nat}(hK:K≤1000):∀(q:List aK) {r:Nat} {v:ar},LB K (r+sM q) v→LB K r (q.foldl D v)
 | [],r,v,g=>g
 | s::q,r,v,g=>by
  rw[Aaw];refine K4.fold h hK q (h K _ v s hK ?_);refine g.mono ?_;simp only[sM,Aah,Aax];omega
theorem K4.call{D:ar→aK→ar}(h:K4 D){K r:Nat}(hK:K≤1000)(v:ar)(s:aK)(peer pos ans:Int)(g:LB K (r+(2+s.args.length)) v):LB K r (dp D v s peer pos ans):=by
 unfold dp;split
 ·rename_i hc;exact h.fold hK _ (g.call hK hc)
 ·exact g.mono (by omega)
theorem LB.bF{K r:Nat}(hK:K≤1000)(y:an)(v:ar)(a:cj)(g:LB K (r+2) v):LB K r (bF y v a):=by
 unfold Go.Proofs.YtolciaflplefcaaGreat.bF;split
 ·rename_i hp;have hl:bB (cO v y).n v.entities.length=true:=by
   simp only[lM,Aav]at hp;exact hp.2.1
  refine g.cT hl _ ?_;simp only[oq,kV,Aar,Aal,Aas];omega
 ·exact LB.push (LB.vp hK (g.mono (by omega)) _ _) _ _
theorem LB.IA{K:Nat}(hK:K≤1000)(y:an):∀(l:List cj) {r:Nat} {v:ar},LB K (r+2*l.length) v→LB K r (l.foldl (Go.Proofs.YtolciaflplefcaaGreat.bF y) v)
 | [],r,v,g=>g
 | a::l,r,v,g=>by
  rw[Aaw];refine LB.IA hK y l (LB.bF hK y v a (g.mono ?_));simp only[Aal];omega
theorem K4.res{D:ar→aK→ar}(h:K4 D){K r:Nat}(hK:K≤1000)(v:ar)(p:Int)(x:an)(g:LB K r v):LB K r (dD D v p x):=by
 unfold dD;split
 ·rename_i hr;have hl:bB p v.entities.length=true:=by
   simp only[pd,Aav]at hr;exact hr.1
  have g1:oq (lJ (aD v p) (vC v p x))=0:=by simp[oq,lJ,sM]
  refine LB.IA hK _ _ (h.fold hK _ (g.cT hl _ ?_));rw[g1];unfold oq;omega
 ·exact g
theorem rk:∀n,K4 (aT n)
 | 0=>fun K r v s _ g=>g.mono (by omega)
 | n+1=>fun K r v s hK g=>by
  have h:=rk n;have fail:LB K r (dD (aT n) v s.result bd):=h.res hK _ _ _ (g.mono (by omega));have call:∀peer pos ans,LB K r (dp (aT n) v (nC v s) peer pos ans):=fun peer pos ans=>h.call hK v (nC v s) peer pos ans g;unfold aT;split
  rotate_left
  ·exact fail
  rename_i ht;have hl:bB (pC v s).n v.entities.length=true:=by simp only[Aav]at ht;exact ht.2
  split
  ·split
   ·exact(g.mono (by omega)).same rfl rfl
   ·exact fail
  split
  ·split
   ·exact call _ _ _
   ·exact fail
  split
  ·split
   ·split
    ·refine(call _ _ _).cT ?_ _ (Aau _);have:=(wK (gr n) v (nC v s) (aD v (pC v s).n).peer 0 (aD v (pC v s).n).pos).1;rw[this];exact hl
    ·exact fail
   split
   ·exact fail
   split
   ·refine g.cT hl _ ?_;simp only[oq,sh,sM,Aaz,Aah,Aan,AaA,Aax,AaD,nC];omega
   ·exact fail
  ·exact fail
structure GI (K:Nat) (v:ar):Prop where
 vi:VI v
 w:wV v≤K
 lb:LB K 0 v
 ne:0<v.entities.length
theorem GI.mono{K K':Nat}{v:ar}(h:GI K v)(hK:K≤K'):GI K' v:=⟨h.vi,by have:=h.w;omega,by obtain⟨N,h1,h2,h3⟩:=h.lb;exact⟨N,h1,by omega,h3⟩,h.ne⟩
theorem LB.sg{K r:Nat}{v:ar}(h:LB K r v):∀l∈v.aq,kv K l:=by
 obtain⟨N,h1,h2,_⟩:=h;exact fun l hl=>(h1 l hl).mono (by omega)
def gF(v:ar):List Int:=v.entities.map fun e=>e.kind
theorem kt(v:ar)(n:Int)(e:aA)(h:e.kind=(aD v n).kind):gF (cT v n.toNat e)=gF v:=by
 simp only[gF,cT,AaE];apply List.ext_getElem?;intro i;by_cases hi:n.toNat=i
 ·subst hi;by_cases hk:n.toNat<v.entities.length
  ·rw[List.getElem?_set_self (by simpa using hk),List.getElem?_map,Aaq hk,h,aD,Aap,Aaq hk];rfl
  ·rw[List.set_eq_of_length_le (by simpa using hk)]
 ·rw[List.getElem?_set_ne hi]
theorem vH.kinds{v v':ar}(h:vH v v'):gF v'=gF v:=by rw[gF,h.fH];rfl
theorem vn(v:ar)(s:aK)(peer pos ans:Int):gF (fW v s peer pos ans)=gF v:=by
 have sm:=(uf v s peer).1.trans (uo (cm v s peer) peer s.result).1;rw[fW,(jX _ _ _).1.kinds,hZ,kt _ _ _ (by rw[sm.aD];rfl),sm.kinds]
theorem rB{α:Type}{D:ar→α→ar}(h:∀v s,gF (D v s)=gF v):∀(q:List α) (v:ar),gF (q.foldl D v)=gF v
 | [],v=>rfl
 | s::q,v=>by rw[Aaw,rB h q,h]
theorem AA{D:ar→aK→ar}(h:∀v s,gF (D v s)=gF v)(v:ar)(s:aK)(peer pos ans:Int):gF (dp D v s peer pos ans)=gF v:=by
 unfold dp;split
 ·rw[rB h,vn]
 ·rfl
theorem Cw(y:an)(v:ar)(a:cj):gF (bF y v a)=gF v:=by
 unfold bF;split
 ·exact kt _ _ _ rfl
 ·rw[(jX _ _ _).1.kinds,(oB _ _ _).1.kinds]
theorem xu{D:ar→aK→ar}(h:∀v s,gF (D v s)=gF v)(v:ar)(p:Int)(x:an):gF (dD D v p x)=gF v:=by
 unfold dD;split
 ·rw[rB (Cw _),rB h];exact kt _ _ _ rfl
 ·rfl
theorem mD:∀(n:Nat) (v:ar) (s:aK),gF (aT n v s)=gF v
 | 0,_,_=>rfl
 | n+1,v,s=>by
  have h:=mD n;unfold aT
  repeat' split
  all_goals first|rfl|exact xu h _ _ _|exact AA h _ _ _ _ _|exact kt _ _ _ rfl|exact(kt _ _ (cP _) rfl).trans (AA h _ _ _ _ _)
def KI(v:ar):Prop:=∀k∈gF v,k=1∨k=2∨k=3
theorem KI.of{v:ar}(h:∀e∈v.entities,kindOk e):KI v:=fun k hk=>by
 obtain⟨e,he,rfl⟩:=AaF.1 hk;exact h e he
theorem F5(v:ar)(t:Int)(name:ByteArray)(args:List an)(h:KI v):KI (kY v t name args).1:=by
 unfold kY;split
 ·rename_i hg;have e:=(vU hg).1;have e2:gF (jm v t)=gF v++[2]:=by
   rw[jm,kt _ _ _ (by rw[qR e];rfl)];simp[gF,pS,jF]
  simp only[KI,mD,e2];intro k hk;rcases Aad.1 hk with g|g
  ·exact h k g
  ·rw[Aae.1 g];exact .inr (.inl rfl)
 ·exact h
theorem Jb{v v':ar}(h:gF v'=gF v):v'.entities.length=v.entities.length:=by
 have:=congrArg List.length h;simpa[gF]using this
theorem VC.frame{h H H':AH}{b:Nat}{bs:List Int}{v:ar}{wE w2 wL w4:AV}{f:List Nat}(x:VC h H b bs v wE w2 wL w4 f)(hbl:b<h.length){g:List Nat}(hl:H.length≤H'.length)(hf:∀c,c∉g→c<H.length→H'[c]? = H[c]?)(hg:∀c∈g,h.length≤c∧c∉f):VC h H' b bs v wE w2 wL w4 f:=by
 have hL:=x.dr.len;obtain⟨i,s,hi,hgt⟩:=x.dr.cur;exact⟨x.own.frame fun c hc=>hf c (fun q=>(hg c q).2 hc) (x.own.lt c hc),x.nd,x.bf,⟨⟨i,s,hi,by rw[bc (hf b (fun q=>by have:=(hg b q).1;omega) (by omega))];exact hgt⟩,by omega,fun c h1 h2=>by
  rw[hf c (fun q=>by have:=(hg c q).1;omega) (by omega),x.dr.fr c h1 h2]⟩⟩
theorem RC(H:AH){b:Nat}{bs:List Int}(hb:bs.length≤1073741824)(hc:w9 H b bs){w:AV}{fp:List Nat}{l:List ByteArray}(o:b9 H w (.sl 1 (l.map fun s=>[CD.s s])) fp)(nd:fp.Nodup)(hbf:b∉fp)(h0:0<l.length):
 T Tryz.prog Γ Fn.kc5 [.gp b 0 0,w] H fun v h'=>∃s∈l,v=.str s∧aP H h' b bs:=by
 have LL0:=(dc o).2;rw[AaB]at LL0;obtain⟨c1,c2,c3,c4⟩:=o.cell;refine W7 (aC aG mixed [] _ _ _ ?_);unfold PJ;simp only[au,Aaa,Aab,K9,c1,c2,c3,LL0];refine al.ref (by simp only[EO]) (bt _ hb hc _) ?_;rintro _ H1 ⟨x,rfl,x0,x1,d1⟩;replace d1:aP H H1 b bs:=d1;obtain⟨k,rfl⟩:∃k:Nat,x=k:=⟨x.toNat,by omega⟩
 have hk:k<l.length:=by have:=x1 (by omega);omega
 obtain⟨qb,g,pre,row,post,f,i1,m,lr,oR,_,_,hqb,_⟩:=(d1.own o hbf).sw nd (k:=k) (by simpa using hk);rw[Aay]at oR;simp only[jv,jy,nF]at oR;obtain⟨_,_,_,_,rfl,_,⟨rfl,_⟩,⟨rfl,_⟩⟩:=oR;have rd:∀(e:List AV) (L:List (List AV)),(St.mk e L H1).cells (.gp qb g pre.length) 1=some [.str l[k]]:=fun e L=>by rw[m.sH e L 1 (by simp)];rfl
 simp only[au,Aaa,Aab,K9,i1,rd];first|exact⟨rfl,_,Aai hk,rfl,d1⟩|exact⟨_,Aai hk,rfl,d1⟩
theorem Fu(h:AH)(l:List ByteArray){n:Nat}(hn:l.length=n):b9 (h++[some (0,(l.map fun n=>[AV.str n]).flatten)]) (.gs h.length 0 0 n n 1 true) (.sl 1 (l.map fun n=>[.s n])) [h.length]:=by
 subst hn;have ho:∀l:List ByteArray,aM (h++[some (0,(l.map fun n=>[AV.str n]).flatten)]) (l.map fun n=>[AV.str n]).flatten (l.map fun n=>[CD.s n]).flatten []→True:=fun _ _=>trivial;have hl:∀(H:AH) (l:List ByteArray),aM H (l.map fun n=>[AV.str n]).flatten (l.map fun n=>[CD.s n]).flatten []:=fun H l=>by
  induction l with
  | nil=>exact .nil
  | cons a l ih=>exact .s ih
 have:=b9.sl_mk (h:=h++[some (0,(l.map fun n=>[AV.str n]).flatten)]) (b:=h.length) (g:=0) (cap:=l.length) (sz:=1) (ex:=true) (zas:=(l.map fun n=>[AV.str n]).flatten) (tail:=[]) (xs:=l.map fun n=>[CD.s n]) (fp:=[])
  (by rw[List.append_nil];exact eQ _ _) (fun y hy=>by obtain⟨x,_,rfl⟩:=AaF.1 hy;rfl) (by simp) (by simp) (hl _ l)
 simpa using this
theorem Lm(H:AH){b:Nat}{bs:List Int}(hb:bs.length≤1073741824)(hc:w9 H b bs):
 T Tryz.prog Γ Fn.kc6 [.gp b 0 0] H fun v h'=>∃s:ByteArray,v=.str s∧s.size≤100∧aP H h' b bs:=by
 have hbl:b<H.length:=by obtain⟨_,_,_,hg⟩:=hc;exact eS hg
 refine WS (aC aG mixed [] _ _ _ ?_);unfold RT;simp only[au,Aaa,Aab,Ms,cK,EF,EA,Jn];have os:=Fu H [⟨#[103,101,116]⟩,⟨#[115,101,116]⟩,⟨#[97,100,100]⟩,⟨#[109,97,107,101]⟩,⟨#[103,111]⟩] rfl;refine al.ref (by simp only[EO]) (RC _ hb (hc.grow _) os (by simp) (by simp only[Aae];omega) (by simp)) ?_;rintro _ H1 ⟨s,hs,rfl,d1⟩;replace d1:aP (H++[some (0,_)]) H1 b bs:=d1;have sz:s.size≤100:=by
  simp only[Aao,Aaj,or_false]at hs;rcases hs with rfl|rfl|rfl|rfl|rfl<;>decide
 have dd:=(aP.pE hc (cQ.app H _)).trans d1;simp only[au,Aaa,Aab,Ms,cK,EF,EA];first|exact⟨rfl,s,rfl,sz,dd⟩|exact⟨s,rfl,sz,dd⟩
end Go.Proofs.YtolciaflplefcaaGreat
