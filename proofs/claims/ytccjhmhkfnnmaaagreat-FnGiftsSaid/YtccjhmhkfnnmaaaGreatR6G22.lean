import Derived.Test.YtccjhmhkfnnmaaaGreatR6G15
import Derived.Test.YtccjhmhkfnnmaaaGreatR6G21
import Derived.Test.YtccjhmhkfnnmaaaGreatR6G16
import Derived.Test.YtccjhmhkfnnmaaaGreatAmG9
set_option linter.unusedVariables false
set_option linter.unusedSimpArgs false
namespace Go.Proofs.YtccjhmhkfnnmaaaGreat
open Go.AM
variable {Γ:cj}
structure gJ (n:Nat) (l:aC):Prop where
  nx:0≤l.next∧l.next≤n
  ak:0≤l.asked∧l.asked≤n
  ex:∀x∈l.exports,1≤x.pos∧x.pos≤l.next∧1≤x.count∧x.count≤n
  nd:l.exports.Pairwise fun x y=>x.pos≠y.pos
  qs:∀q∈l.questions,1≤q.id∧q.id≤l.asked
  le:l.exports.length≤n
  lq:l.questions.length≤n
  la:l.answers.length≤n
theorem gJ.mono{n m:Nat}{l:aC}(h:gJ n l)(hm:n≤m):gJ m l:=
  ⟨⟨h.nx.1,by have:=h.nx.2;omega⟩,⟨h.ak.1,by have:=h.ak.2;omega⟩,fun x hx=>by have:=h.ex x hx;omega,h.nd,h.qs,by have:=h.le;omega,by have:=h.lq;omega,by have:=h.la;omega⟩
theorem gJ.ok{n:Nat}{l:aC}(h:gJ n l)(hn:n≤1048576):l.ok 1048576:=⟨by have:=h.le;omega,by have:=h.lq;omega,by have:=h.la;omega⟩
theorem Rw{z:Int}(h0:-1000000000≤z)(h1:z≤1000000000):IntKind.i64.wrap z=z:=iv (by omega) (by omega)
theorem Ig{l:List aM}(nd:l.Pairwise fun x y=>x.pos≠y.pos){k:Nat}(hk:k<l.length):(∀(i:Nat) (hi:i<l.length),i<k→(l[i].pos == l[k].pos)=false):=fun i hi hik=>by
  have:=List.pairwise_iff_getElem.1 nd i k hi hk hik
  simpa using this
theorem Gt{l:List aM}(nd:l.Pairwise fun x y=>x.pos≠y.pos){k:Nat}(hk:k<l.length){y:aM}(hy:y.pos=l[k].pos):(l.set k y).Pairwise fun x y=>x.pos≠y.pos:=by
  rw[List.pairwise_iff_getElem]at nd ⊢
  intro i j hi hj hij
  have hi':i<l.length:=by simpa using hi
  have hj':j<l.length:=by simpa using hj
  rw[List.getElem_set,List.getElem_set]
  split
  · rename_i e;subst e
    split
    · omega
    · rw[hy];exact nd k j hi' hj' hij
  · split
    · rename_i e;subst e;rw[hy];exact nd i k hi' hj' hij
    · exact nd i j hi' hj' hij
theorem gJ.put{n:Nat}{l:aC}(h:gJ n l)(hn:n≤1000)(e:Int):gJ (n+1) (df l e).1:=by
  obtain⟨nx,ak,ex,nd,qs,le,lq,la⟩:=h
  rcases eQ (fun x:aM=>x.entity == e) l.exports with⟨k,hk,e1,e2,e3⟩|⟨e1,e2,e3⟩
  · rw[rg hk e1]
    have hx:=ex _ (List.getElem_mem hk)
    have w:IntKind.i64.wrap (l.exports[k].count+1)=l.exports[k].count+1:=Rw (by omega) (by omega)
    rw[w]
    refine⟨⟨nx.1,by simp only;omega⟩,⟨ak.1,by simp only;omega⟩,fun x hx'=>?_,Gt nd hk rfl,qs,by simp only[List.length_set];omega,by simp only;omega,by simp only;omega⟩
    rcases List.mem_or_eq_of_mem_set hx' with g|g
    · have:=ex x g;simp only;omega
    · subst g;simp only;omega
  · rw[nH e1]
    have w:IntKind.i64.wrap (l.next+1)=l.next+1:=Rw (by omega) (by omega)
    rw[w]
    refine⟨⟨by simp only;omega,by simp only;omega⟩,⟨ak.1,by simp only;omega⟩,fun x hx'=>?_,?_,qs,by simp only[List.length_append,List.length_cons,List.length_nil];omega,by simp only;omega,by simp only;omega⟩
    · simp only[List.mem_append,List.mem_singleton]at hx'
      rcases hx' with g|g
      · have:=ex x g;simp only;omega
      · subst g;simp only;omega
    · simp only
      rw[List.pairwise_append]
      refine⟨nd,by simp,fun x hx y hy=>?_⟩
      simp only[List.mem_singleton]at hy;subst hy
      have:=ex x hx;simp only;omega
theorem gJ.ask{n:Nat}{l:aC}(h:gJ n l)(hn:n≤1000)(e:Int):gJ (n+1) (jK l e).1:=by
  obtain⟨nx,ak,ex,nd,qs,le,lq,la⟩:=h
  have w:IntKind.i64.wrap (l.asked+1)=l.asked+1:=Rw (by omega) (by omega)
  unfold jK
  rw[w]
  refine⟨⟨nx.1,by simp only;omega⟩,⟨by simp only;omega,by simp only;omega⟩,fun x hx'=>by have:=ex x hx';simp only;omega,nd,fun q hq=>?_,by simp only;omega,by simp only[List.length_append,List.length_cons,List.length_nil];omega,by simp only;omega⟩
  simp only[List.mem_append,List.mem_singleton]at hq
  rcases hq with g|g
  · have:=qs q g;simp only;omega
  · subst g;simp only;omega
theorem gJ.rel{n:Nat}{l:aC}(h:gJ n l)(hn:n≤1000)(pos c:Int)(hc:c≤1000):gJ n (CV l pos c):=by
  have h0:=h
  obtain⟨nx,ak,ex,nd,qs,le,lq,la⟩:=h
  by_cases hc1:c<1
  · rw[Ez hc1];exact h0
  rcases eQ (fun x:aM=>x.pos == pos) l.exports with⟨k,hk,e1,e2,e3⟩|⟨e1,e2,e3⟩
  · rw[Oe hc1 hk e1]
    have hx:=ex _ (List.getElem_mem hk)
    have w:IntKind.i64.wrap (l.exports[k].count-c)=l.exports[k].count-c:=Rw (by omega) (by omega)
    rw[w]
    split
    · refine⟨nx,ak,fun x hx'=>ex x (List.mem_of_mem_eraseIdx hx'),nd.sublist (List.eraseIdx_sublist _ _),qs,?_,lq,la⟩
      have:=List.length_eraseIdx_le l.exports k
      simp only;omega
    · refine⟨nx,ak,fun x hx'=>?_,Gt nd hk rfl,qs,by simpa using le,lq,la⟩
      rcases List.mem_or_eq_of_mem_set hx' with g|g
      · exact ex x g
      · subst g;simp only;omega
  · rw[Hh e1];exact h0
theorem gJ.ans{n:Nat}{l:aC}(h:gJ n l)(q:aH):gJ (n+1) { l with answers:=l.answers++[q] }:=by
  obtain⟨nx,ak,ex,nd,qs,le,lq,la⟩:=h
  exact⟨⟨nx.1,by simp only;omega⟩,⟨ak.1,by simp only;omega⟩,fun x hx'=>by have:=ex x hx';simp only;omega,nd,qs,by simp only;omega,by simp only;omega,by simp only[List.length_append,List.length_cons,List.length_nil];omega⟩
theorem gJ.zero(p:Int):gJ 0 ⟨p,true,[],0,[],0,[]⟩:=⟨by simp,by simp,by simp,by simp,by simp,by simp,by simp,by simp⟩
theorem T9{n:Nat}{l:aC}(h:gJ n l)(hn:n≤1000)(e:Int):∃(k:Nat) (hk:k<(df l e).1.exports.length),dI (fun x:aM=>x.entity == e) (df l e).1.exports=(k:Int)∧(df l e).1.exports[k].pos=(df l e).2∧(df l e).1.exports[k].entity=e∧(NP l e=0→(df l e).1.exports[k].count=1):=by
  rcases eQ (fun x:aM=>x.entity == e) l.exports with⟨k,hk,e1,e2,e3⟩|⟨e1,e2,e3⟩
  · have pe:=rg hk e1
    have hk2:k<(df l e).1.exports.length:=by rw[pe];simpa using hk
    have hx:(df l e).1.exports[k]={ l.exports[k]with count:=IntKind.i64.wrap (l.exports[k].count+1) }:=by simp[pe]
    refine⟨k,hk2,?_,by rw[hx,pe],by rw[hx];simpa using e2,fun hp=>?_⟩
    · refine kJ hk2 (fun i hi hik=>?_) (by rw[hx];exact e2)
      have hi':i<l.exports.length:=by omega
      have:(df l e).1.exports[i]=l.exports[i]:=by
        simp only[pe];rw[List.getElem_set_ne (by omega)]
      rw[this];exact tC e1 i hi' hik
    · exfalso
      have:NP l e=l.exports[k].pos:=by simp only[NP,e3]
      have:=(h.ex _ (List.getElem_mem hk)).1
      omega
  · have pe:=nH e1
    have hk2:l.exports.length<(df l e).1.exports.length:=by rw[pe];simp
    have hx:(df l e).1.exports[l.exports.length]=⟨IntKind.i64.wrap (l.next+1),e,1⟩:=by simp[pe]
    refine⟨l.exports.length,hk2,?_,by rw[hx,pe],by rw[hx],fun _=>by rw[hx]⟩
    refine kJ hk2 (fun i hi hik=>?_) (by rw[hx];simp)
    have:(df l e).1.exports[i]=l.exports[i]:=by
      simp only[pe];rw[List.getElem_append_left hik]
    rw[this];exact e3 _ (List.getElem_mem _)
theorem G8{n:Nat}{x:aC}(h:gJ n x){k:Nat}(hk:k<x.exports.length):dq x.exports x.exports[k].pos=x.exports[k].entity:=by
  simp only[dq,Bk (p:=fun y:aM=>y.pos == x.exports[k].pos) hk (Ig h.nd hk) (by simp)]
end Go.Proofs.YtccjhmhkfnnmaaaGreat
namespace Go.Proofs.YtccjhmhkfnnmaaaGreat
open Go.AM
variable {Γ:cj}
def Dm(e:aE):Prop:=e.kind=1∨e.kind=2∨e.kind=3
structure Bw (k j:Nat) (v:aA):Prop where
  vi:VI v
  w:wV v+k≤12
  el:v.entities.length+j≤12
  lk:v.aq.length=2
  kd:∀e∈v.entities,Dm e
  ne:0<v.entities.length
  li:∀l∈v.aq,gJ (13-k) l
theorem Bw.Bp{k j:Nat}{v:aA}(d:Bw (k+1) j v):Bw k j v:=⟨d.vi,by have:=d.w;omega,d.el,d.lk,d.kd,d.ne,fun l hl=>(d.li l hl).mono (by omega)⟩
theorem Bw.add{k j:Nat}{v:aA}(d:Bw k (j+1) v){x:aE}(h1:x.slots.length≤100)(h2:x.queue=[])(h3:x.askers=[])(h4:Dm x):Bw k j (fW v x):=by
  have hl:=d.el
  have e:fW v x={ v with entities:=v.entities++[x] }:=by rw[fW,if_neg (by omega)]
  rw[e]
  have hx:jB x=0:=by simp[jB,h2,h3,pq]
  refine⟨⟨by simp only[List.length_append,List.length_cons,List.length_nil];omega,d.vi.loop,d.vi.aq,d.vi.ans,fun y hy=>?_,d.vi.lps,d.vi.outs⟩,?_,by simp only[List.length_append,List.length_cons,List.length_nil];omega,d.lk,fun y hy=>?_,by simp,d.li⟩
  · rcases List.mem_append.1 hy with g|g
    · exact d.vi.en y g
    · rw[List.mem_singleton.1 g];exact⟨h1,fun s hs=>by rw[h2]at hs;cases hs⟩
  · have:=d.w
    simp only[wV,List.map_append,List.sum_append,List.map_cons,List.map_nil,List.sum_cons,List.sum_nil,hx]at this ⊢;omega
  · rcases List.mem_append.1 hy with g|g
    · exact d.kd y g
    · rw[List.mem_singleton.1 g];exact h4
theorem Bw.V8{k j:Nat}{v:aA}(d:Bw (k+1) j v){i:Nat}{l:aC}(hl:vG l≤vG (v.aq.getD i default)+1)(ha:l.answers.length≤100)(hi:gJ (13-(k+1)+1) l):Bw k j (gY v i l):=
  ⟨lB d.vi i l ha,by have:=px (v:=v) i l hl;have:=d.w;omega,d.el,by simp[gY,d.lk],d.kd,d.ne,fun x hx=>by
    have:=d.w
    rcases List.mem_or_eq_of_mem_set hx with g|g
    · exact(d.li x g).mono (by omega)
    · rw[g];exact hi.mono (by omega)⟩
theorem Iq(script:Int):Bw 10 9 (eV 1 [2,3] script):=by
  refine⟨⟨by simp[eV],by simp[eV],by simp[eV],fun l hl=>?_,fun e he=>?_,fun s hs=>by simp[eV]at hs,fun s hs=>by simp[eV]at hs⟩,?_,by simp[eV],by simp[eV],fun e he=>?_,by simp[eV],fun l hl=>?_⟩
  · simp only[eV,List.map_cons,List.map_nil,List.mem_cons,List.not_mem_nil,or_false]at hl
    rcases hl with rfl|rfl<;>(rw[jF,(kg _ _).2.2];exact Nat.zero_le _)
  · simp only[eV,List.map_cons,List.map_nil,List.mem_cons,List.not_mem_nil,or_false]at he
    rcases he with rfl|rfl|rfl<;>exact⟨Nat.zero_le _,fun s hs=>by cases hs⟩
  · have a:=CB (pT 2) 0
    have b:=CB (pT 3) 0
    have a0:vG (pT 2)=0:=rfl
    have b0:vG (pT 3)=0:=rfl
    have e:wV (eV 1 [2,3] script)=vG (jF 2)+vG (jF 3):=by simp[wV,eV,jB,G3,eR,jV,pq]
    rw[e];unfold jF;omega
  · simp only[eV,List.map_cons,List.map_nil,List.mem_cons,List.not_mem_nil,or_false]at he
    rcases he with rfl|rfl|rfl
    · exact .inl rfl
    · exact .inr (.inr rfl)
    · exact .inr (.inr rfl)
  · simp only[eV,List.map_cons,List.map_nil,List.mem_cons,List.not_mem_nil,or_false]at hl
    rcases hl with rfl|rfl<;>exact((gJ.zero _).put (by omega) 0).mono (by omega)
theorem Dd{H H':AH}{b:Nat}{bs:List Int}(d:aR H H' b bs){row:List AV}{cs:List CD}{fp:List Nat}(o:aO H row cs fp)(hb:b∉fp):aO H' row cs fp:=o.frame fun c hc=>d.fr c (o.lt c hc) (fun e=>hb (e▸hc))
structure VC (h H:AH) (b:Nat) (bs:List Int) (v:aA) (wE w2 wL w4:AV) (f:List Nat):Prop where
  own:aO H [.int .i64 v.id,wE,w2,wL,w4] v.cd f
  nd:f.Nodup
  bf:∀c∈f,h.length≤c∧c≠b
  dr:aR h H b bs
theorem VC.draw{h H H':AH}{b:Nat}{bs:List Int}{v:aA}{wE w2 wL w4:AV}{f:List Nat}(x:VC h H b bs v wE w2 wL w4 f)(d:aR H H' b bs):VC h H' b bs v wE w2 wL w4 f:=
  ⟨Dd d x.own fun g=>(x.bf b g).2 rfl,x.nd,x.bf,x.dr.trans d⟩
theorem VC.ext{h H H':AH}{b:Nat}{bs:List Int}{v:aA}{wE w2 wL w4:AV}{f:List Nat}(x:VC h H b bs v wE w2 wL w4 f)(d:bQ H H'):VC h H' b bs v wE w2 wL w4 f:=
  x.draw (.kO x.dr.cur d)
theorem sf{h H:AH}{b:Nat}{bs:List Int}{v:aA}{wE w2 wL w4:AV}{f:List Nat}(x:VC h H b bs v wE w2 wL w4 f)(hbl:b<h.length)(hv:v.ok 1048576){e:aE}(he:e.ok 1048576){ec:List AV}{fe:List Nat}(oe:aO H ec e.cd fe)
    {en:List AV} {L:List (List AV)} {K:AV→St→Prop} (ho:[AV.agg [.int .i64 v.id,wE,w2,wL,w4],.agg ec].all eH=true)
    (hk:∀wE' w2' wL' w4' f' H' n,VC h H' b bs (fW v e) wE' w2' wL' w4' f'→K (.tup [.agg [.int .i64 (fW v e).id,wE',w2',wL',w4'],.int .i64 n]) ⟨en,L,H'⟩):
    ah Tryz.prog Γ Fn.Gq [.agg [.int .i64 v.id,wE,w2,wL,w4],.agg ec] ⟨en,L,H⟩ K:=by
  refine ah.own ho (aI (aO.dT (aA.bM true v) x.own) (aI (aO.dT (aE.bM true e) oe) bm)) (RE true v hv e he) ?_
  rintro _ H' fr
  replace fr:aS H _ _ _:=fr
  obtain⟨ac,f',rfl,o',n',b',eg⟩:=fr.a2 rfl
  obtain⟨wE',w2',wL',w4',_,_,_,_,rfl,_,_⟩:=ju o'
  have:=x.dr.len
  exact hk wE' w2' wL' w4' f' H' _ ⟨o',n',fun c hc=>by have:=b' c hc;exact⟨by omega,by omega⟩,x.dr.trans (.kO x.dr.cur eg)⟩
theorem Ol{w:AV}{p:AV}(h:eJ 7 w ((1:Nat):Int)=some p):eJ 7 w 1=some p:=h
theorem VH(z:AV):(List.replicate 2 [z]).flatten=[z,z]:=rfl
theorem VC.cell{h H:AH}{b:Nat}{bs:List Int}{v:aA}{wE w2 wL w4:AV}{f:List Nat}(x:VC h H b bs v wE w2 wL w4 f):(cellsOf wE=some [wE]∧bK wE=true∧bo wE=true∧eH wE=true)∧(cellsOf w2=some [w2]∧bK w2=true∧bo w2=true∧eH w2=true)∧(cellsOf wL=some [wL]∧bK wL=true∧bo wL=true∧eH wL=true)∧(cellsOf w4=some [w4]∧bK w4=true∧bo w4=true∧eH w4=true)∧rE false wE=some (.int .i64 v.entities.length):=by
  obtain⟨_,_,_,_,_,_,_,_,e,_,oE,o2,oL,o4⟩:=ju x.own
  simp only[List.cons.injEq,true_and,and_true]at e
  obtain⟨rfl,rfl,rfl,rfl⟩:=e
  have l:=(dE oE).2
  rw[List.length_map]at l
  exact⟨oE.cell,o2.cell,oL.cell,o4.cell,l⟩
theorem VC.link{h H:AH}{b:Nat}{bs:List Int}{v:aA}{wE w2 wL w4:AV}{f:List Nat}(x:VC h H b bs v wE w2 wL w4 f)(hbl:b<h.length){k:Nat}(hk:k<v.aq.length):∃bL gL n row f0,eJ 7 wL (k:Int)=some (.gp bL gL n)∧(∀(e:List AV) (L:List (List AV)),(St.mk e L H).cells (.gp bL gL n) 7=some row)∧
    aO H row v.aq[k].cd f0∧f0.Nodup∧∀(H4:AH) (row':List AV) (l':aC) (f':List Nat),bQ H H4→aO H4 row' l'.cd f'→f'.Nodup→(∀c∈f',c∈f0∨H.length≤c)→
      ∃H5 f5,(∀(e:List AV) (L:List (List AV)),(St.mk e L H4).store (.gp bL gL n) row'=some ⟨e,L,H5⟩)∧VC h H5 b bs { v with aq:=v.aq.set k l' } wE w2 wL w4 f5:=by
  obtain⟨_,_,_,_,fE,f2,fL,f4,e,rfl,oE,o2,oL,o4⟩:=ju x.own
  simp only[List.cons.injEq,true_and,and_true]at e
  obtain⟨rfl,rfl,rfl,rfl⟩:=e
  obtain⟨nE,n1,q1⟩:=List.nodup_append.1 x.nd
  obtain⟨n2,n3,q2⟩:=List.nodup_append.1 n1
  obtain⟨nL,n4,q3⟩:=List.nodup_append.1 n3
  have hkm:k<(v.aq.map aC.cd).length:=by simpa using hk
  obtain⟨bL,gL,pre,rowL,post,fL0,iL,mL,lL,oLr,nLr,sLr,bmL,bnL,close⟩:=oL.kK nL hkm
  rw[List.getElem_map]at oLr
  refine⟨bL,gL,pre.length,rowL,fL0,iL,fun e L=>by rw[mL.qn e L 7 (by omega)];exact pC lL,oLr,nLr,fun H4 row' l' f' eg o' n' b'=>?_⟩
  have vlt:=x.own.lt
  have hfL:∀c∈fL,c<H.length:=fun c hc=>vlt c (by simp[hc])
  have hbq:=hfL bL bmL
  have rl:row'.length=7:=by rw[o'.len];rfl
  have m4:pO H4 bL gL pre _ post:=mL.frame (eg.fr bL hbq)
  obtain⟨H5,s5,m5,l5,r5⟩:=m4.store (i:=0) (vs:=row') (by rw[rl,lL];exact Nat.le_refl 7) o'.bo
  rw[Nat.add_zero]at s5
  have ov:cB rowL 0 row'=row':=by simp[cB,rl,lL]
  rw[ov]at m5
  have lx:=eg.len
  have nb:∀c∈f',c≠bL:=fun c hc e=>by
    rcases b' c hc with g|g
    · exact bnL (e▸g)
    · omega
  have o5:=o'.frame (h':=H5) fun c hc=>r5 c (nb c hc)
  obtain⟨fL',oL5,nL5,mL5⟩:=close H5 _ l'.cd f' o5 n' rfl (fun c hc=>(b' c hc).imp id fun g hm=>by have:=hfL c hm;omega) m5 (fun c hc hcf hcb=>by rw[r5 c hcb];exact eg.fr c (hfL c hc))
  rw[←List.map_set]at oL5
  have mf:∀c∈fL',c∈fL∨H.length≤c:=fun c hc=>by
    rcases mL5 c hc with g|g
    · exact .inl g
    · exact(b' c g).imp (sLr c) id
  have oth:∀c,c∈fE∨c∈f2∨c∈f4→H5[c]? = H[c]?∧c∉fL':=fun c hc=>by
    have hl:c<H.length:=vlt c (by rcases hc with g|g|g<;>simp[g])
    have hn:c∉fL:=fun g=>by
      rcases hc with q|q|q
      · exact q1 c q c (by simp[g]) rfl
      · exact q2 c q c (by simp[g]) rfl
      · exact q3 c g c q rfl
    refine⟨by rw[r5 c (fun e=>hn (e▸bmL)),eg.fr c hl],fun g=>?_⟩
    rcases mf c g with q|q
    · exact hn q
    · omega
  have hL:=x.dr.len
  have bbL:=x.bf bL (by simp[bmL])
  refine⟨H5,fE++(f2++(fL'++f4)),s5,Ty (v:={ v with aq:=v.aq.set k l' }) (oE.frame fun c hc=>(oth c (.inl hc)).1) (o2.frame fun c hc=>(oth c (.inr (.inl hc))).1) oL5 (o4.frame fun c hc=>(oth c (.inr (.inr hc))).1),?_,fun c hc=>?_,?_⟩
  · refine List.nodup_append.2 ⟨nE,List.nodup_append.2 ⟨n2,List.nodup_append.2 ⟨nL5,n4,fun c hc d hd e=>(oth d (.inr (.inr hd))).2 (e▸hc)⟩,fun c hc d hd e=>?_⟩,fun c hc d hd e=>?_⟩
    · subst e
      rcases List.mem_append.1 hd with g|g
      · exact(oth c (.inr (.inl hc))).2 g
      · exact q2 c hc c (by simp[g]) rfl
    · subst e
      rcases List.mem_append.1 hd with g|g
      · exact q1 c hc c (by simp[g]) rfl
      · rcases List.mem_append.1 g with g|g
        · exact(oth c (.inl hc)).2 g
        · exact q1 c hc c (by simp[g]) rfl
  · simp only[List.mem_append]at hc
    rcases hc with g|g|g|g
    · exact x.bf c (by simp[g])
    · exact x.bf c (by simp[g])
    · rcases mf c g with q|q
      · exact x.bf c (by simp[q])
      · omega
    · exact x.bf c (by simp[g])
  · obtain⟨i,s,hi,hg⟩:=x.dr.cur
    refine⟨⟨i,s,hi,by rw[bO (r5 b (fun e=>bbL.2 e.symm)),bO (eg.fr b (by omega))];exact hg⟩,by omega,fun c h1 h2=>?_⟩
    rw[r5 c (by omega),eg.fr c (by omega),x.dr.fr c h1 h2]
theorem Bw.ok{k j:Nat}{v:aA}(d:Bw k j v):v.ok 1048576:=d.vi.MN.mono (by have:=d.w;omega)
theorem DA{m:Nat}(h1:m<1000000):IntKind.i64.wrap (((m+1:Nat):Int)-1)=(m:Int):=by rw[iv (by omega) (by omega)];omega
def lH(st k n peer pos:Int):aE:=⟨2,0,[],st,⟨k,n⟩,[],[],peer,pos,0,0⟩
theorem sM(H:AH)(st k n peer pos:Int):aO H [.int .i64 2,.int .i64 0,.nils,.int .i64 st,.int .i64 k,.int .i64 n,.nils,.nils,.int .i64 peer,.int .i64 pos,.int .i64 0,.int .i64 0] (lH st k n peer pos).cd []:=.i (.i (.o (.nil _) (.i (.i (.i (.o (.nil _) (.o (.nil _) (.i (.i (.i (.i .nil)))))))))))
abbrev W4:List AV:=[.int .i64 0,.int .i64 0,.nils,.int .i64 0,.int .i64 0,.int .i64 0,.nils,.nils,.int .i64 0,.int .i64 0,.int .i64 0,.int .i64 0]
abbrev pR(st k n peer pos:Int):List AV:=[.int .i64 2,.int .i64 0,.nils,.int .i64 st,.int .i64 k,.int .i64 n,.nils,.nils,.int .i64 peer,.int .i64 pos,.int .i64 0,.int .i64 0]
abbrev z5:List AV:=[.int .i64 0,.nils,.nils,.nils,.nils]
theorem Bs{e:List AV}{h:AH}{id i':Int}{a b c d a' b' c' d':AV}{X Y:List (List AV)}(ha:bK a'=true)(hb:bK b'=true)(hc:bK c'=true)(hd:bK d'=true):
    (St.mk e (LL z5 [.int .i64 id,a,b,c,d] X++Y) h).store (.lp (([]:List (List AV)).length+1) 0) [.int .i64 i',a',b',c',d']=some ⟨e,LL z5 [.int .i64 i',a',b',c',d'] X++Y,h⟩:=
  AA (by simp) (by simp only[List.all_cons,List.all_nil,ha,hb,hc,hd];rfl)
theorem HT{e:List AV}{h:AH}{id i':Int}{a b c d a' b' c' d':AV}{X:List (List AV)}(ha:bK a'=true)(hb:bK b'=true)(hc:bK c'=true)(hd:bK d'=true):
    (St.mk e (LL z5 [.int .i64 id,a,b,c,d] X) h).store (.lp (([]:List (List AV)).length+1) 0) [.int .i64 i',a',b',c',d']=some ⟨e,LL z5 [.int .i64 i',a',b',c',d'] X,h⟩:=
  Ea (by simp) (by simp only[List.all_cons,List.all_nil,ha,hb,hc,hd];rfl)
set_option maxHeartbeats 8000000 in
set_option maxRecDepth 100000 in
theorem QK(h:AH){b:Nat}{bs:List Int}(hb:bs.length≤1073741824)(hc:nc h b bs):T Tryz.prog Γ Fn.VW [.gp b 0 0] h fun r H'=>∃v wE w2 wL w4 f,r=.agg [.int .i64 v.id,wE,w2,wL,w4]∧Bw 0 0 v∧VC h H' b bs v wE w2 wL w4 f:=by
  have hbl:b<h.length:=by obtain⟨_,_,_,hg⟩:=hc;exact c5 hg
  refine P8 (aD aJ aK [] _ _ _ ?_)
  unfold Kj
  simp only[EZ,ag,Nat.reduceAdd,Nat.reduceBEq,eC,cm,cq,ck,aF,aP,ER,EF,EA,VH]
  refine ah.ref (by simp only[EO]) (aW _ hb (hc.grow _) _) ?_
  rintro _ H1 ⟨sc,rfl,_,_,q1⟩
  replace q1:aR (h++[some (0,[AV.int .i64 2,.int .i64 3])]) H1 b bs:=q1
  have o1:=(rk h [2,3] rfl)
  have o1':=q1.own o1 (by simp only[List.mem_singleton];omega)
  simp only[EZ,ag,Nat.reduceAdd,Nat.reduceBEq,eC,cm,cq,ck,aF,aP,ER,EF,EA]
  refine ah.own (by simp only[EO]) (aI (.same _) (aI (bN.dT (cd:=fun n:Int=>[CD.i .i64 n]) (c:=fun n:Int=>[AV.int .i64 n]) (fun n=>by simp[CD.fb]) o1') (aI (.same _) bm))) (Sz true 1 [2,3] (by simp) sc) ?_
  rintro _ H2 fr
  replace fr:aS H1 _ _ _:=fr
  obtain⟨ac,f,rfl,o2,n2,b2,e2⟩:=fr.a1
  obtain⟨wE,w2,wL,w4,fE,f2,fL,f4,rfl,rfl,_⟩:=ju o2
  have q2:aR h H2 b bs:=(aR.kO hc (bQ.app h _)).trans (q1.trans (.kO q1.cur e2))
  have l1:=q1.len
  simp only[List.length_append,List.length_cons,List.length_nil]at l1
  have x2:VC h H2 b bs (eV 1 [2,3] sc) wE w2 wL w4 (fE++(f2++(fL++f4))):=⟨o2,n2,fun c hc=>by have:=b2 c hc;omega,q2⟩
  obtain⟨⟨a1,a2,a3,a4⟩,⟨b1,b2,b3,b4⟩,⟨c1,c2,c3,c4⟩,⟨d1,d2,d3,d4⟩,lE⟩:=x2.cell
  simp only[EZ,ag,Nat.reduceAdd,Nat.reduceBEq,eC,cm,cq,ck,aF,aP,ER,EF,EA,a1,a2,a3,b1,b2,b3,c1,c2,c3,d1,d2,d3]
  refine ah.ref (by simp only[EO]) (aW _ hb q2.cur _) ?_
  rintro _ H3 ⟨kC,rfl,cnt0,cnt1,q3⟩
  replace q3:aR H2 H3 b bs:=q3
  have x3:=x2.draw q3
  replace cnt1:=cnt1 (by omega)
  obtain⟨k0,rfl⟩:∃k0:Nat,kC=k0:=⟨kC.toNat,by omega⟩
  have ds0:Bw k0 k0 (eV 1 [2,3] sc):=by
    have d:=Iq sc
    exact⟨d.vi,by have:=d.w;omega,by have:=d.el;omega,d.lk,d.kd,d.ne,fun l hl=>(d.li l hl).mono (by omega)⟩
  simp only[EZ,ag,Nat.reduceAdd,Nat.reduceBEq,eC,cm,cq,ck,aF,aP,ER,EF,EA]
  refine dD aJ aK [] (fun x:Nat×aA×AV×AV×AV×AV×List Nat×AH×List (List AV)=>x.1≤4∧Bw x.1 x.1 x.2.1∧VC h x.2.2.2.2.2.2.2.1 b bs x.2.1 x.2.2.1 x.2.2.2.1 x.2.2.2.2.1 x.2.2.2.2.2.1 x.2.2.2.2.2.2.1) (fun x=>x.1)
    (fun x=>C1 (.gp b 0 0) (.lp ([]:List (List AV)).length 0) (.lp (([]:List (List AV)).length+1) 0) (.int .i64 x.1) (LL z5 [.int .i64 x.2.1.id,x.2.2.1,x.2.2.2.1,x.2.2.2.2.1,x.2.2.2.2.2.1] x.2.2.2.2.2.2.2.2) x.2.2.2.2.2.2.2.1) (k0,eV 1 [2,3] sc,wE,w2,wL,w4,_,H3,[]) ⟨by simp only;omega,ds0,x3⟩ ⟨by simp[C1,eP,eM],rfl,rfl⟩ ?_
  rintro⟨k,v,wE,w2,wL,w4,f,Hi,X⟩ ⟨hk,ds,xi⟩
  simp only at hk ds xi
  obtain⟨⟨a1,a2,a3,a4⟩,⟨b1,b2,b3,b4⟩,⟨c1,c2,c3,c4⟩,⟨d1,d2,d3,d4⟩,lE⟩:=xi.cell
  simp only[EZ,ag,Nat.reduceAdd,Nat.reduceBEq,eC,cm,cq,ck,C1,aF,aP,ER,EF,EA]
  refine bI (fun hgt=>?_) (fun hge=>?_)
  rotate_left
  · have hge:k=0:=by simp at hge;omega
    subst hge
    simp only[EZ,ag,Nat.reduceAdd,Nat.reduceBEq,eC,cm,cq,ck,aF,aP,ER,EF,EA]
    refine ah.ref (by simp only[EO]) (ru _ hb xi.dr.cur _) ?_
    rintro _ H2' ⟨on,rfl,q2'⟩
    replace q2':aR Hi H2' b bs:=q2'
    have x2':=xi.draw q2'
    have st0:∀(e:List AV) (h:AH),(St.mk e (LL z5 [.int .i64 v.id,wE,w2,wL,w4] X) h).store (.lp (([]:List (List AV)).length) 0) [.int .i64 v.id,wE,w2,wL,w4]=some ⟨e,LL [.int .i64 v.id,wE,w2,wL,w4] [.int .i64 v.id,wE,w2,wL,w4] X,h⟩:=fun e h=>tG (by simp) (by simp only[List.all_cons,List.all_nil,a2,b2,c2,d2];rfl)
    cases on
    · simp only[EZ,ag,Nat.reduceAdd,Nat.reduceBEq,eC,cm,cq,ck,aF,aP,ER,EF,EA,cg,aY,a1,a2,a3,b1,b2,b3,c1,c2,c3,d1,d2,d3,st0]
      exact⟨by simp only[c7,EO,a3,a4,b3,b4,c3,c4,d3,d4],v,wE,w2,wL,w4,f,rfl,ds,x2'⟩
    · obtain⟨bL,gL,nn,row,f0,i1,r1,oR,nR,wr⟩:=x2'.link hbl (k:=1) (by rw[ds.lk];omega)
      have i1':=Ol i1
      obtain⟨H5,f5,s5,x5⟩:=wr H2' [.int .i64 3,.bool false,.nils,.int .i64 0,.nils,.int .i64 0,.nils] ⟨3,false,[],0,[],0,[]⟩ [] (bQ.refl _) (.i (.b (.o (.nil _) (.i (.o (.nil _) (.i (.o (.nil _) .nil))))))) (by simp) (fun c hc=>by cases hc)
      have dd:Bw 0 0 { v with aq:=v.aq.set 1 ⟨3,false,[],0,[],0,[]⟩ }:=by
        refine⟨lB ds.vi 1 _ (Nat.zero_le _),?_,ds.el,by simp[ds.lk],ds.kd,ds.ne,fun l hl=>by
          rcases List.mem_or_eq_of_mem_set hl with g|g
          · exact ds.li l g
          · rw[g];exact⟨by simp,by simp,by simp,by simp,by simp,by simp,by simp,by simp⟩⟩
        have:=px (v:=v) 1 ⟨3,false,[],0,[],0,[]⟩ (c:=0) (by simp[vG])
        have hw:=ds.w
        show wV (gY v 1 _)+0≤12
        omega
      simp only[EZ,ag,Nat.reduceAdd,Nat.reduceBEq,eC,cm,cq,ck,aF,aP,ER,EF,EA,cg,aY,a1,a2,a3,b1,b2,b3,c1,c2,c3,d1,d2,d3,st0,i1',s5]
      exact⟨by simp only[c7,EO,a3,a4,b3,b4,c3,c4,d3,d4],{ v with aq:=v.aq.set 1 ⟨3,false,[],0,[],0,[]⟩ },wE,w2,wL,w4,f5,rfl,dd,x5⟩
  have hgt:0<k:=by simp at hgt;omega
  obtain⟨m,rfl⟩:∃m,k=m+1:=⟨k-1,by omega⟩
  simp only[EZ,ag,Nat.reduceAdd,Nat.reduceBEq,eC,cm,cq,ck,aF,aP,ER,EF,EA]
  refine ah.ref (by simp only[EO]) (aW _ hb xi.dr.cur _) ?_
  rintro _ H1' ⟨n,rfl,n0,n1,q1'⟩
  replace q1':aR Hi H1' b bs:=q1'
  have x1':=xi.draw q1'
  by_cases n_0:n=0
  · simp only[EZ,ag,Nat.reduceAdd,Nat.reduceBEq,eC,cm,cq,ck,aF,aP,ER,EF,EA,ae,aY,dB,dv,a1,a2,a3,b1,b2,b3,c1,c2,c3,d1,d2,d3,lE,decide_eq_true n_0]
    refine ah.ref (by simp only[EO]) (aW _ hb x1'.dr.cur _) ?_
    rintro _ Ha ⟨sa,rfl,sa_0,sa_1,qa⟩
    replace qa:aR H1' Ha b bs:=qa
    have xHa:=x1'.draw qa
    simp only[EZ,ag,Nat.reduceAdd,Nat.reduceBEq,eC,cm,cq,ck,aF,aP,ER,EF,EA,aY,dB,dv,gz,ic,a1,a2,a3,b1,b2,b3,c1,c2,c3,d1,d2,d3,lE]
    try refine⟨fun r hr n cs hc=>by rw[show r=3 by simpa using hr]at hc ⊢;exact hc,?_⟩
    refine ah.ref (by simp only[EO]) (aW _ hb xHa.dr.cur _) ?_
    rintro _ Hb ⟨sb,rfl,sb_0,sb_1,qb⟩
    replace qb:aR Ha Hb b bs:=qb
    have xHb:=xHa.draw qb
    simp only[EZ,ag,Nat.reduceAdd,Nat.reduceBEq,eC,cm,cq,ck,aF,aP,ER,EF,EA,aY,dB,dv,gz,ic,a1,a2,a3,b1,b2,b3,c1,c2,c3,d1,d2,d3,lE]
    try refine⟨fun r hr n cs hc=>by rw[show r=3 by simpa using hr]at hc ⊢;exact hc,?_⟩
    refine ah.ref (by simp only[EO]) (D6 _ _) ?_
    rintro _ H4 ⟨⟨z,rfl⟩,e⟩
    replace e:H4=Hb:=e
    subst e
    simp only[EZ,ag,Nat.reduceAdd,Nat.reduceBEq,eC,cm,cq,ck,aF,aP,ER,EF,EA,aY,dB,dv,gz,ic,a1,a2,a3,b1,b2,b3,c1,c2,c3,d1,d2,d3,lE,ar.c]
    try refine⟨fun r hr n cs hc=>by rw[show r=3 by simpa using hr]at hc ⊢;exact hc,?_⟩
    try refine⟨Mem.heap ⟨_,_,_⟩ _ _,?_⟩
    have xh:=xHb.ext (bQ.app H4 [some (0,[AV.int .i64 0,.int .i64 z])])
    have ov:=ky H4 (sz:=2) (ys:=[AV.int .i64 0,.int .i64 z]) (row:=(ar.mk 0 z).cd) (f2:=[]) rfl (.i (.i .nil))
    refine ah.own (by simp only[EO]) (aI (.same _) (aI (bN.dT (l:=[ar.mk 0 z]) (ar.bM true) ov) bm)) (Kd true sa [⟨0,z⟩] (by simp)) ?_
    rintro _ H5 fr
    replace fr:aS (H4++[some (0,[AV.int .i64 0,.int .i64 z])]) _ _ _:=fr
    obtain⟨ac,fe,rfl,oe,ne,be,ee⟩:=fr.a1
    have x5':=xh.ext ee
    obtain⟨wS,wQ,wA,fS,fQ,fA,rfl,rfl,oS,oQ,oA⟩:=et oe
    obtain⟨y1,y2,y3,y4⟩:=oS.cell
    obtain⟨y5,y6,y7,y8⟩:=oQ.cell
    obtain⟨y9,ya,yb,yc⟩:=oA.cell
    simp only[EZ,ag,Nat.reduceAdd,Nat.reduceBEq,eC,cm,cq,ck,aF,aP,ER,EF,EA,aY,dB,dv,gz,ic,a1,a2,a3,b1,b2,b3,c1,c2,c3,d1,d2,d3,lE,y1,y2,y3,y5,y6,y7,y9,ya,yb]
    try refine⟨fun r hr n cs hc=>by rw[show r=3 by simpa using hr]at hc ⊢;exact hc,?_⟩
    refine sf x5' hbl ds.ok (e:=eR sa [⟨0,z⟩]) (by simp[aE.ok,eR]) (oe) (by simp only[List.all_cons,List.all_nil,EO,a3,b3,c3,d3,pW,kl,y3,y7,yb]) ?_
    intro wE' w2' wL' w4' f' H' n' xx
    obtain⟨⟨aa1,aa2,aa3,aa4⟩,⟨bb1,bb2,bb3,bb4⟩,⟨cc1,cc2,cc3,cc4⟩,⟨dd1,dd2,dd3,dd4⟩,_⟩:=xx.cell
    have s5:=fun e h=>HT (e:=e) (h:=h) (id:=v.id) (i':=(fW v (eR sa [⟨0,z⟩])).id) (a:=wE) (b:=w2) (c:=wL) (d:=w4) (X:=X) aa2 bb2 cc2 dd2
    simp only[EZ,ag,Nat.reduceAdd,Nat.reduceBEq,eC,cm,cq,ck,aF,aP,ER,EF,EA,aY,dB,dv,gz,ic,a1,a2,a3,b1,b2,b3,c1,c2,c3,d1,d2,d3,lE,aa1,aa2,aa3,bb1,bb2,bb3,cc1,cc2,cc3,dd1,dd2,dd3,s5]
    exact⟨(m,fW v (eR sa [⟨0,z⟩]),wE',w2',wL',w4',f',H',X),⟨by simp only;omega,ds.Bp.add (by simp[eR]) rfl rfl (.inl rfl),xx⟩,by simp only;omega,⟨by rw[DA (by omega)];simp[eP,eM],rfl,rfl⟩⟩
  by_cases n_1:n=1
  · simp only[EZ,ag,Nat.reduceAdd,Nat.reduceBEq,eC,cm,cq,ck,aF,aP,ER,EF,EA,ae,aY,dB,dv,a1,a2,a3,b1,b2,b3,c1,c2,c3,d1,d2,d3,lE,decide_eq_false n_0,decide_eq_true n_1]
    refine ah.val (by simp only[EO]) (D8 _) ?_
    simp only[EZ,ag,Nat.reduceAdd,Nat.reduceBEq,eC,cm,cq,ck,aF,aP,ER,EF,EA]
    try refine⟨fun r hr n cs hc=>by rw[show r=3 by simpa using hr]at hc ⊢;exact hc,?_⟩
    refine sf x1' hbl ds.ok (e:=gN) (by simp[aE.ok,gN]) (B3 _) (by simp only[List.all_cons,List.all_nil,EO,a3,b3,c3,d3,pW,kl]) ?_
    intro wE' w2' wL' w4' f' H' n' xx
    obtain⟨⟨aa1,aa2,aa3,aa4⟩,⟨bb1,bb2,bb3,bb4⟩,⟨cc1,cc2,cc3,cc4⟩,⟨dd1,dd2,dd3,dd4⟩,_⟩:=xx.cell
    have s5:=fun e h=>HT (e:=e) (h:=h) (id:=v.id) (i':=(fW v (gN)).id) (a:=wE) (b:=w2) (c:=wL) (d:=w4) (X:=X) aa2 bb2 cc2 dd2
    simp only[EZ,ag,Nat.reduceAdd,Nat.reduceBEq,eC,cm,cq,ck,aF,aP,ER,EF,EA,aY,dB,dv,gz,ic,a1,a2,a3,b1,b2,b3,c1,c2,c3,d1,d2,d3,lE,aa1,aa2,aa3,bb1,bb2,bb3,cc1,cc2,cc3,dd1,dd2,dd3,s5]
    exact⟨(m,fW v (gN),wE',w2',wL',w4',f',H',X),⟨by simp only;omega,ds.Bp.add (Nat.zero_le _) rfl rfl (.inr (.inl rfl)),xx⟩,by simp only;omega,⟨by rw[DA (by omega)];simp[eP,eM],rfl,rfl⟩⟩
  by_cases n_2:n=2
  · simp only[EZ,ag,Nat.reduceAdd,Nat.reduceBEq,eC,cm,cq,ck,aF,aP,ER,EF,EA,ae,aY,dB,dv,a1,a2,a3,b1,b2,b3,c1,c2,c3,d1,d2,d3,lE,decide_eq_false n_0,decide_eq_false n_1,decide_eq_true n_2]
    refine ah.val (by simp only[EO]) (D8 _) ?_
    have t0:∀(e:List AV) (h:AH),(St.mk e (LL z5 [.int .i64 v.id,wE,w2,wL,w4] X++[W4]) h).store (.lp (X.length+2) 0) (pR 1 0 0 0 0)=some ⟨e,LL z5 [.int .i64 v.id,wE,w2,wL,w4] X++[pR 1 0 0 0 0],h⟩:=fun e h=>oq (by simp) rfl
    have t1:∀(e:List AV) (h:AH),(St.mk e (LL z5 [.int .i64 v.id,wE,w2,wL,w4] X++[pR 1 0 0 0 0]) h).store (.lp (X.length+2) 3) [.int .i64 2]=some ⟨e,LL z5 [.int .i64 v.id,wE,w2,wL,w4] X++[pR 2 0 0 0 0],h⟩:=fun e h=>oq (by simp) rfl
    have t2:∀(e:List AV) (h:AH) (a c a' c':Int),(St.mk e (LL z5 [.int .i64 v.id,wE,w2,wL,w4] X++[pR 2 a c 0 0]) h).store (.lp (X.length+2) 4) [.int .i64 a',.int .i64 c']=some ⟨e,LL z5 [.int .i64 v.id,wE,w2,wL,w4] X++[pR 2 a' c' 0 0],h⟩:=fun e h a c a' c'=>oq (by simp) rfl
    simp only[EZ,ag,Nat.reduceAdd,Nat.reduceBEq,eC,cm,cq,ck,aF,aP,ER,EF,EA,aY,dB,dv,gz,ic,a1,a2,a3,b1,b2,b3,c1,c2,c3,d1,d2,d3,lE,pW,t0,t1]
    refine ah.ref (by simp only[EO]) (aW _ hb x1'.dr.cur _) ?_
    rintro _ Ha ⟨sa,rfl,sa_0,sa_1,qa⟩
    replace qa:aR H1' Ha b bs:=qa
    have xHa:=x1'.draw qa
    simp only[EZ,ag,Nat.reduceAdd,Nat.reduceBEq,eC,cm,cq,ck,aF,aP,ER,EF,EA,aY,dB,dv,gz,ic,a1,a2,a3,b1,b2,b3,c1,c2,c3,d1,d2,d3,lE]
    refine ah.val (by simp only[EO]) (sZ _ _) ?_
    simp only[EZ,ag,Nat.reduceAdd,Nat.reduceBEq,eC,cm,cq,ck,aF,aP,ER,EF,EA,aY,dB,dv,gz,ic,a1,a2,a3,b1,b2,b3,c1,c2,c3,d1,d2,d3,lE,ar.c,t2]
    refine ah.ref (by simp only[EO]) (ru _ hb xHa.dr.cur _) ?_
    rintro _ Hb ⟨on,rfl,qb⟩
    replace qb:aR Ha Hb b bs:=qb
    have xHb:=xHa.draw qb
    cases on
    · simp only[EZ,ag,Nat.reduceAdd,Nat.reduceBEq,eC,cm,cq,ck,aF,aP,ER,EF,EA,aY,dB,dv,gz,ic,a1,a2,a3,b1,b2,b3,c1,c2,c3,d1,d2,d3,lE]
      refine sf xHb hbl ds.ok (e:=lH 2 1 sa 0 0) (by simp[aE.ok,lH]) (sM _ _ _ _ _ _) (by simp only[List.all_cons,List.all_nil,EO,a3,b3,c3,d3,pW,kl]) ?_
      intro wE' w2' wL' w4' f' H' n' xx
      obtain⟨⟨aa1,aa2,aa3,aa4⟩,⟨bb1,bb2,bb3,bb4⟩,⟨cc1,cc2,cc3,cc4⟩,⟨dd1,dd2,dd3,dd4⟩,_⟩:=xx.cell
      have s5:=fun e h=>Bs (e:=e) (h:=h) (id:=v.id) (i':=(fW v (lH 2 1 sa 0 0)).id) (a:=wE) (b:=w2) (c:=wL) (d:=w4) (X:=X) (Y:=[pR 2 1 sa 0 0]) aa2 bb2 cc2 dd2
      simp only[EZ,ag,Nat.reduceAdd,Nat.reduceBEq,eC,cm,cq,ck,aF,aP,ER,EF,EA,aY,dB,dv,gz,ic,a1,a2,a3,b1,b2,b3,c1,c2,c3,d1,d2,d3,lE,aa1,aa2,aa3,bb1,bb2,bb3,cc1,cc2,cc3,dd1,dd2,dd3,s5]
      exact⟨(m,fW v (lH 2 1 sa 0 0),wE',w2',wL',w4',f',H',X++[pR 2 1 sa 0 0]),⟨by simp only;omega,ds.Bp.add (Nat.zero_le _) rfl rfl (.inr (.inl rfl)),xx⟩,by simp only;omega,⟨by rw[DA (by omega)];simp[eP,eM],rfl,rfl⟩⟩
    · simp only[EZ,ag,Nat.reduceAdd,Nat.reduceBEq,eC,cm,cq,ck,aF,aP,ER,EF,EA,aY,dB,dv,gz,ic,a1,a2,a3,b1,b2,b3,c1,c2,c3,d1,d2,d3,lE]
      refine ah.ref (by simp only[EO]) (aW _ hb xHb.dr.cur _) ?_
      rintro _ Hc ⟨Vn,rfl,sc2_0,sc2_1,qc⟩
      replace qc:aR Hb Hc b bs:=qc
      have xHc:=xHb.draw qc
      simp only[EZ,ag,Nat.reduceAdd,Nat.reduceBEq,eC,cm,cq,ck,aF,aP,ER,EF,EA,aY,dB,dv,gz,ic,a1,a2,a3,b1,b2,b3,c1,c2,c3,d1,d2,d3,lE]
      refine ah.ref (by simp only[EO]) (D6 _ _) ?_
      rintro _ H4 ⟨⟨z,rfl⟩,e⟩
      replace e:H4=Hc:=e
      subst e
      simp only[EZ,ag,Nat.reduceAdd,Nat.reduceBEq,eC,cm,cq,ck,aF,aP,ER,EF,EA,aY,dB,dv,gz,ic,a1,a2,a3,b1,b2,b3,c1,c2,c3,d1,d2,d3,lE,ar.c,t2]
      refine sf xHc hbl ds.ok (e:=lH 2 0 z 0 0) (by simp[aE.ok,lH]) (sM _ _ _ _ _ _) (by simp only[List.all_cons,List.all_nil,EO,a3,b3,c3,d3,pW,kl]) ?_
      intro wE' w2' wL' w4' f' H' n' xx
      obtain⟨⟨aa1,aa2,aa3,aa4⟩,⟨bb1,bb2,bb3,bb4⟩,⟨cc1,cc2,cc3,cc4⟩,⟨dd1,dd2,dd3,dd4⟩,_⟩:=xx.cell
      have s5:=fun e h=>Bs (e:=e) (h:=h) (id:=v.id) (i':=(fW v (lH 2 0 z 0 0)).id) (a:=wE) (b:=w2) (c:=wL) (d:=w4) (X:=X) (Y:=[pR 2 0 z 0 0]) aa2 bb2 cc2 dd2
      simp only[EZ,ag,Nat.reduceAdd,Nat.reduceBEq,eC,cm,cq,ck,aF,aP,ER,EF,EA,aY,dB,dv,gz,ic,a1,a2,a3,b1,b2,b3,c1,c2,c3,d1,d2,d3,lE,aa1,aa2,aa3,bb1,bb2,bb3,cc1,cc2,cc3,dd1,dd2,dd3,s5]
      exact⟨(m,fW v (lH 2 0 z 0 0),wE',w2',wL',w4',f',H',X++[pR 2 0 z 0 0]),⟨by simp only;omega,ds.Bp.add (Nat.zero_le _) rfl rfl (.inr (.inl rfl)),xx⟩,by simp only;omega,⟨by rw[DA (by omega)];simp[eP,eM],rfl,rfl⟩⟩
  by_cases n_3:n=3
  · simp only[EZ,ag,Nat.reduceAdd,Nat.reduceBEq,eC,cm,cq,ck,aF,aP,ER,EF,EA,ae,aY,dB,dv,a1,a2,a3,b1,b2,b3,c1,c2,c3,d1,d2,d3,lE,decide_eq_false n_0,decide_eq_false n_1,decide_eq_false n_2,decide_eq_true n_3]
    refine ah.ref (by simp only[EO]) (aW _ hb x1'.dr.cur _) ?_
    rintro _ Ha ⟨sa,rfl,sa_0,sa_1,qa⟩
    replace qa:aR H1' Ha b bs:=qa
    have xHa:=x1'.draw qa
    replace sa_1:=sa_1 (by omega)
    obtain⟨j,rfl⟩:∃j:Nat,sa=j:=⟨sa.toNat,by omega⟩
    have hj:j<v.aq.length:=by rw[ds.lk];omega
    obtain⟨bL,gL,nn,row,f0,i1,r1,oR,nR,wr⟩:=xHa.link hbl hj
    obtain⟨l,hl⟩:∃l,l=v.aq[j]:=⟨_,rfl⟩
    rw[←hl]at oR
    have Ff:l.ok 1048576:=by rw[hl];exact(ds.vi.Ff _ (List.getElem_mem hj)).mono (by have:=ds.w;omega)
    obtain⟨wX,wQ',wA',fX,fq,fa,rfl,rfl,oX,oQq,oAa⟩:=db oR
    obtain⟨y1,y2,y3,y4⟩:=oX.cell
    obtain⟨y5,y6,y7,y8⟩:=oQq.cell
    obtain⟨y9,ya,yb,yc⟩:=oAa.cell
    simp only[EZ,ag,Nat.reduceAdd,Nat.reduceBEq,eC,cm,cq,ck,aF,aP,ER,EF,EA,aY,dB,dv,gz,ic,a1,a2,a3,b1,b2,b3,c1,c2,c3,d1,d2,d3,lE,y1,y2,y3,y5,y6,y7,y9,ya,yb,i1,r1]
    refine ah.own (by simp only[EO,y3,y7,yb]) (aI (aO.dT (aC.bM true l) oR) (aI (.same _) bm)) (fun h=>JF true l Ff _ h) ?_
    rintro _ H4 fr
    replace fr:aS Ha _ _ _:=fr
    obtain⟨row',f',rfl,o',n',b',eg⟩:=fr.a2 rfl
    obtain⟨lk,hlk⟩:∃lk,lk=(jK l (v.entities.length:Int)).1:=⟨_,rfl⟩
    obtain⟨qq,hqq⟩:∃qq,qq=(jK l (v.entities.length:Int)).2:=⟨_,rfl⟩
    rw[←hlk]at o'
    obtain⟨H5,f5,s5',x5⟩:=wr H4 row' lk f' eg o' n' (fun c hc=>.inr (b' c hc))
    obtain⟨wX2,wQ2,wA2,_,_,_,rfl,_,oX2,oQ2,oA2⟩:=db o'
    obtain⟨z1,z2,z3,z4⟩:=oX2.cell
    obtain⟨z5',z6,z7,z8⟩:=oQ2.cell
    obtain⟨z9,za,zb,zc⟩:=oA2.cell
    have sx:∀(e:List AV) (h:AH),(St.mk e (LL z5 [.int .i64 v.id,wE,w2,wL,w4] X++[[.int .i64 0,.bool false,.nils,.int .i64 0,.nils,.int .i64 0,.nils]]) h).store (.lp (X.length+2) 0) [.int .i64 lk.peer,.bool lk.up,wX2,.int .i64 lk.next,wQ2,.int .i64 lk.asked,wA2]=some ⟨e,LL z5 [.int .i64 v.id,wE,w2,wL,w4] X++[[.int .i64 lk.peer,.bool lk.up,wX2,.int .i64 lk.next,wQ2,.int .i64 lk.asked,wA2]],h⟩:=fun e h=>oq (by simp) (by simp only[List.all_cons,List.all_nil,z2,z6,za];rfl)
    simp only[EZ,ag,Nat.reduceAdd,Nat.reduceBEq,eC,cm,cq,ck,aF,aP,ER,EF,EA,aY,dB,dv,gz,ic,a1,a2,a3,b1,b2,b3,c1,c2,c3,d1,d2,d3,lE,CD.fb,←hlk,←hqq,z1,z2,z3,z5',z6,z7,z9,za,zb,sx,i1,s5']
    refine ah.val (by simp only[EO]) (D8 _) ?_
    have t0:∀(e:List AV) (h:AH) (r0:List AV),(St.mk e (LL z5 [.int .i64 v.id,wE,w2,wL,w4] X++[r0,W4]) h).store (.lp (X.length+2+1) 0) (pR 1 0 0 0 0)=some ⟨e,LL z5 [.int .i64 v.id,wE,w2,wL,w4] X++[r0,pR 1 0 0 0 0],h⟩:=fun e h r0=>AW (by simp) rfl
    have t1:∀(e:List AV) (h:AH) (r0:List AV),(St.mk e (LL z5 [.int .i64 v.id,wE,w2,wL,w4] X++[r0,pR 1 0 0 0 0]) h).store (.lp (X.length+2+1) 3) [.int .i64 3]=some ⟨e,LL z5 [.int .i64 v.id,wE,w2,wL,w4] X++[r0,pR 3 0 0 0 0],h⟩:=fun e h r0=>AW (by simp) rfl
    have t2:∀(e:List AV) (h:AH) (r0:List AV) (a:Int),(St.mk e (LL z5 [.int .i64 v.id,wE,w2,wL,w4] X++[r0,pR 3 0 0 0 0]) h).store (.lp (X.length+2+1) 8) [.int .i64 a]=some ⟨e,LL z5 [.int .i64 v.id,wE,w2,wL,w4] X++[r0,pR 3 0 0 a 0],h⟩:=fun e h r0 a=>AW (by simp) rfl
    have t3:∀(e:List AV) (h:AH) (r0:List AV) (a c:Int),(St.mk e (LL z5 [.int .i64 v.id,wE,w2,wL,w4] X++[r0,pR 3 0 0 a 0]) h).store (.lp (X.length+2+1) 9) [.int .i64 c]=some ⟨e,LL z5 [.int .i64 v.id,wE,w2,wL,w4] X++[r0,pR 3 0 0 a c],h⟩:=fun e h r0 a c=>AW (by simp) rfl
    simp only[EZ,ag,Nat.reduceAdd,Nat.reduceBEq,eC,cm,cq,ck,aF,aP,ER,EF,EA,aY,dB,dv,gz,ic,a1,a2,a3,b1,b2,b3,c1,c2,c3,d1,d2,d3,lE,pW,t0,t1,t2,t3,z1,z2,z3,z5',z6,z7,z9,za,zb]
    have ds':Bw m (m+1) { v with aq:=v.aq.set j lk }:=ds.V8 (i:=j) (l:=lk) (by
      have e:v.aq.getD j default=l:=by rw[List.getD_eq_getElem?_getD,List.getElem?_eq_getElem hj,hl];rfl
      rw[e,hlk];simp[vG,jK];omega) (by rw[hlk,hl];exact(show v.aq[j].answers.length≤100 from ds.vi.ans _ (List.getElem_mem hj))) (by rw[hlk,hl];exact(ds.li _ (List.getElem_mem hj)).ask (by omega) _)
    refine sf x5 hbl ds'.ok (e:=lH 3 0 0 lk.peer qq) (by simp[aE.ok,lH]) (sM _ _ _ _ _ _) (by simp only[List.all_cons,List.all_nil,EO,a3,b3,c3,d3]) ?_
    intro wE' w2' wL' w4' f' H' n' xx
    obtain⟨⟨aa1,aa2,aa3,aa4⟩,⟨bb1,bb2,bb3,bb4⟩,⟨cc1,cc2,cc3,cc4⟩,⟨dd1,dd2,dd3,dd4⟩,_⟩:=xx.cell
    have s5:=fun e h=>Bs (e:=e) (h:=h) (id:=v.id) (i':=(fW { v with aq:=v.aq.set j lk } (lH 3 0 0 lk.peer qq)).id) (a:=wE) (b:=w2) (c:=wL) (d:=w4) (X:=X) (Y:=[[.int .i64 lk.peer,.bool lk.up,wX2,.int .i64 lk.next,wQ2,.int .i64 lk.asked,wA2],pR 3 0 0 lk.peer qq]) aa2 bb2 cc2 dd2
    simp only[EZ,ag,Nat.reduceAdd,Nat.reduceBEq,eC,cm,cq,ck,aF,aP,ER,EF,EA,aY,dB,dv,gz,ic,a1,a2,a3,b1,b2,b3,c1,c2,c3,d1,d2,d3,lE,aa1,aa2,aa3,bb1,bb2,bb3,cc1,cc2,cc3,dd1,dd2,dd3,s5]
    exact⟨(m,fW { v with aq:=v.aq.set j lk } (lH 3 0 0 lk.peer qq),wE',w2',wL',w4',f',H',X++[[.int .i64 lk.peer,.bool lk.up,wX2,.int .i64 lk.next,wQ2,.int .i64 lk.asked,wA2],pR 3 0 0 lk.peer qq]),⟨by simp only;omega,ds'.add (Nat.zero_le _) rfl rfl (.inr (.inl rfl)),xx⟩,by simp only;omega,⟨by rw[DA (by omega)];simp[eP,eM],rfl,rfl⟩⟩
  simp only[EZ,ag,Nat.reduceAdd,Nat.reduceBEq,eC,cm,cq,ck,aF,aP,ER,EF,EA,ae,aY,dB,dv,a1,a2,a3,b1,b2,b3,c1,c2,c3,d1,d2,d3,lE,decide_eq_false n_0,decide_eq_false n_1,decide_eq_false n_2,decide_eq_false n_3]
  refine ah.ref (by simp only[EO]) (aW _ hb x1'.dr.cur _) ?_
  rintro _ Ha ⟨sa,rfl,sa_0,sa_1,qa⟩
  replace qa:aR H1' Ha b bs:=qa
  have xHa:=x1'.draw qa
  simp only[EZ,ag,Nat.reduceAdd,Nat.reduceBEq,eC,cm,cq,ck,aF,aP,ER,EF,EA,aY,dB,dv,gz,ic,a1,a2,a3,b1,b2,b3,c1,c2,c3,d1,d2,d3,lE]
  try refine⟨fun r hr n cs hc=>by rw[show r=3 by simpa using hr]at hc ⊢;exact hc,?_⟩
  refine ah.ref (by simp only[EO]) (aW _ hb xHa.dr.cur _) ?_
  rintro _ Hb ⟨sb,rfl,sb_0,sb_1,qb⟩
  replace qb:aR Ha Hb b bs:=qb
  have xHb:=xHa.draw qb
  simp only[EZ,ag,Nat.reduceAdd,Nat.reduceBEq,eC,cm,cq,ck,aF,aP,ER,EF,EA,aY,dB,dv,gz,ic,a1,a2,a3,b1,b2,b3,c1,c2,c3,d1,d2,d3,lE]
  try refine⟨fun r hr n cs hc=>by rw[show r=3 by simpa using hr]at hc ⊢;exact hc,?_⟩
  refine ah.val (by simp only[EO]) (Gu _ _ _) ?_
  simp only[EZ,ag,Nat.reduceAdd,Nat.reduceBEq,eC,cm,cq,ck,aF,aP,ER,EF,EA,aY,dB,dv,gz,ic,a1,a2,a3,b1,b2,b3,c1,c2,c3,d1,d2,d3,lE,kl]
  try refine⟨fun r hr n cs hc=>by rw[show r=3 by simpa using hr]at hc ⊢;exact hc,?_⟩
  refine sf xHb hbl ds.ok (e:=jV (IntKind.i64.wrap (2+sa)) (IntKind.i64.wrap (2+sb))) (by simp[aE.ok,jV]) (rK _ _ _) (by simp only[List.all_cons,List.all_nil,EO,a3,b3,c3,d3,pW,kl]) ?_
  intro wE' w2' wL' w4' f' H' n' xx
  obtain⟨⟨aa1,aa2,aa3,aa4⟩,⟨bb1,bb2,bb3,bb4⟩,⟨cc1,cc2,cc3,cc4⟩,⟨dd1,dd2,dd3,dd4⟩,_⟩:=xx.cell
  have s5:=fun e h=>HT (e:=e) (h:=h) (id:=v.id) (i':=(fW v (jV (IntKind.i64.wrap (2+sa)) (IntKind.i64.wrap (2+sb)))).id) (a:=wE) (b:=w2) (c:=wL) (d:=w4) (X:=X) aa2 bb2 cc2 dd2
  simp only[EZ,ag,Nat.reduceAdd,Nat.reduceBEq,eC,cm,cq,ck,aF,aP,ER,EF,EA,aY,dB,dv,gz,ic,a1,a2,a3,b1,b2,b3,c1,c2,c3,d1,d2,d3,lE,aa1,aa2,aa3,bb1,bb2,bb3,cc1,cc2,cc3,dd1,dd2,dd3,s5]
  exact⟨(m,fW v (jV (IntKind.i64.wrap (2+sa)) (IntKind.i64.wrap (2+sb))),wE',w2',wL',w4',f',H',X),⟨by simp only;omega,ds.Bp.add (Nat.zero_le _) rfl rfl (.inr (.inr rfl)),xx⟩,by simp only;omega,⟨by rw[DA (by omega)];simp[eP,eM],rfl,rfl⟩⟩
end Go.Proofs.YtccjhmhkfnnmaaaGreat
namespace Go.Proofs.YtccjhmhkfnnmaaaGreat
open Go.AM
variable {Γ:cj}
def wE(v:aA):Nat:=(v.entities.map jB).sum
theorem PD(v:aA):wE v≤wV v:=by unfold wE wV;omega
def LB(K r:Nat)(v:aA):Prop:=∃N,(∀l∈v.aq,gJ N l)∧N+wE v+r≤K∧v.aq.length=2
theorem LB.mono{K r r':Nat}{v:aA}(h:LB K r v)(hr:r'≤r):LB K r' v:=by
  obtain⟨N,h1,h2,h3⟩:=h
  exact⟨N,h1,by omega,h3⟩
theorem LB.Q2{K r c:Nat}{v:aA}(h:LB K r v):LB (K+c) (r+c) v:=by
  obtain⟨N,h1,h2,h3⟩:=h
  exact⟨N,h1,by omega,h3⟩
theorem LB.same{K r:Nat}{v v':aA}(h:LB K r v)(hl:v'.aq=v.aq)(he:v'.entities=v.entities):LB K r v':=by
  obtain⟨N,h1,h2,h3⟩:=h
  exact⟨N,by rw[hl];exact h1,by unfold wE at *;rw[he];exact h2,by rw[hl];exact h3⟩
theorem LB.gY{K r:Nat}{v:aA}(h:LB K (r+1) v)(k:Nat)(l:aC)(hl:∀N,N+1≤K→(∀x∈v.aq,gJ N x)→gJ (N+1) l):LB K r (gY v k l):=by
  obtain⟨N,h1,h2,h3⟩:=h
  refine⟨N+1,fun x hx=>?_,by show N+1+wE v+r≤K;omega,by simpa[Go.Proofs.YtccjhmhkfnnmaaaGreat.gY]using h3⟩
  rcases List.mem_or_eq_of_mem_set hx with g|g
  · exact(h1 x g).mono (by omega)
  · rw[g];exact hl N (by omega) h1
theorem gJ.V3:gJ 0 (default:aC):=⟨⟨Int.le_refl _,Int.le_refl _⟩,⟨Int.le_refl _,Int.le_refl _⟩,fun x hx=>(by cases hx),List.Pairwise.nil,fun x hx=>(by cases hx),Nat.le_refl _,Nat.le_refl _,Nat.le_refl _⟩
theorem gJ.getD{N:Nat}{ls:List aC}(h:∀x∈ls,gJ N x)(k:Nat):gJ N (ls.getD k default):=by
  rw[List.getD_eq_getElem?_getD]
  cases hk:ls[k]? with
  | some l=>exact h l (List.mem_of_getElem? hk)
  | none=>exact gJ.V3.mono (Nat.zero_le _)
theorem LB.HQ{K r:Nat}{v:aA}(hK:K≤1000)(h:LB K (r+1) v)(peer:Int)(x:ar):LB K r (cr v peer x).1:=by
  have w:=h.mono (r':=r) (by omega)
  unfold cr
  split
  · exact w
  · split
    · split
      · exact w
      · exact h.gY _ _ fun N hN hl=>(gJ.getD hl _).put (by omega) _
    · exact w
theorem LB.Dv{K:Nat}(hK:K≤1000)(peer:Int):∀(l:List ar) {r:Nat} {v:aA},LB K (r+l.length) v→LB K r (bu v peer l).1
  | [],r,v,h=>h
  | x::l,r,v,h=>by
    simp only[bu]
    exact LB.Dv hK peer l (LB.HQ hK (by simpa only[List.length_cons,Nat.add_assoc]using h) peer x)
theorem LB.push{K r:Nat}{v:aA}(h:LB K r v)(p:Int)(m:aB):LB K r (i4 v p m):=by
  unfold i4
  split
  · exact h.same rfl rfl
  · exact h
theorem LB.ask{K r:Nat}{v:aA}(hK:K≤1000)(h:LB K (r+1) v)(peer p:Int):LB K r (qg v peer p):=
  h.gY _ _ fun N hN hl=>(gJ.getD hl _).ask (by omega) _
theorem LB.fI{K r r':Nat}{v:aA}(h:LB K r v){n:Int}(hn:dU n v.entities.length=true)(e:aE)(hw:r'+jB e≤r+jB (aT v n)):LB K r' (fI v n.toNat e):=by
  obtain⟨N,h1,h2,h3⟩:=h
  refine⟨N,h1,?_,h3⟩
  obtain⟨k,hk,_,e2,e3⟩:=gg hn
  have:=qR jB v.entities k e hk
  rw[e3]at hw
  rw[e2];unfold wE at *
  show N+(List.map jB (v.entities.set k e)).sum+r'≤K
  omega
theorem LB.call{K r:Nat}{v:aA}{s:aX}{peer pos ans:Int}(hK:K≤1000)(hc:hQ v s peer=true)(h:LB K (r+(2+s.args.length)) v):LB K (r+pq (aT v s.result).queue) (jN v s peer pos ans):=by
  obtain⟨_,h2,h3,h4⟩:=uT hc
  have w1:=(tY v s peer).1
  have a1:=(uN (eh v s peer) peer s.result).1
  have sm:=w1.trans a1
  have l1:LB K (r+2) (eh v s peer):=LB.Dv hK peer s.args (by simpa only[Nat.add_assoc]using h)
  have l2:=LB.ask (r:=r+1) hK l1 peer s.result
  have hl:dU s.result (qg (eh v s peer) peer s.result).entities.length=true:=by rw[sm.ents];exact h2
  have e0:=sm.aT s.result
  refine LB.push (LB.fI l2 hl _ ?_) _ _
  rw[e0]
  have g1:jB (kL (aT v s.result) peer (uU (eh v s peer) peer s.result))+pq (aT v s.result).queue=jB (aT v s.result):=by simp[jB,kL,pq];omega
  omega
def JR(D:aA→aX→aA):Prop:=∀K r v s,K≤1000→LB K (r+(2+s.args.length)) v→LB K r (D v s)
theorem JR.fold{D:aA→aX→aA}(h:JR D){K:Nat}(hK:K≤1000):∀(q:List aX) {r:Nat} {v:aA},LB K (r+pq q) v→LB K r (q.foldl D v)
  | [],r,v,g=>g
  | s::q,r,v,g=>by
    rw[List.foldl_cons]
    refine JR.fold h hK q (h K _ v s hK ?_)
    refine g.mono ?_
    simp only[pq,List.map_cons,List.sum_cons];omega
theorem JR.call{D:aA→aX→aA}(h:JR D){K r:Nat}(hK:K≤1000)(v:aA)(s:aX)(peer pos ans:Int)(g:LB K (r+(2+s.args.length)) v):LB K r (gW D v s peer pos ans):=by
  unfold gW
  split
  · rename_i hc
    exact h.fold hK _ (g.call hK hc)
  · exact g.mono (by omega)
theorem LB.de{K r:Nat}(hK:K≤1000)(y:ar)(v:aA)(a:cD)(g:LB K (r+2) v):LB K r (de y v a):=by
  unfold Go.Proofs.YtccjhmhkfnnmaaaGreat.de
  split
  · rename_i hp
    have hl:dU (eK v y).n v.entities.length=true:=by
      simp only[mD,Bool.and_eq_true]at hp;exact hp.2.1
    refine g.fI hl _ ?_
    simp only[jB,jX,List.length_append,List.length_cons,List.length_nil];omega
  · exact LB.push (LB.HQ hK (g.mono (by omega)) _ _) _ _
theorem LB.DB{K:Nat}(hK:K≤1000)(y:ar):∀(l:List cD) {r:Nat} {v:aA},LB K (r+2*l.length) v→LB K r (l.foldl (Go.Proofs.YtccjhmhkfnnmaaaGreat.de y) v)
  | [],r,v,g=>g
  | a::l,r,v,g=>by
    rw[List.foldl_cons]
    refine LB.DB hK y l (LB.de hK y v a (g.mono ?_))
    simp only[List.length_cons];omega
theorem JR.res{D:aA→aX→aA}(h:JR D){K r:Nat}(hK:K≤1000)(v:aA)(p:Int)(x:ar)(g:LB K r v):LB K r (hP D v p x):=by
  unfold hP
  split
  · rename_i hr
    have hl:dU p v.entities.length=true:=by
      simp only[td,Bool.and_eq_true]at hr;exact hr.1
    have g1:jB (lA (aT v p) (vH v p x))=0:=by simp[jB,lA,pq]
    refine LB.DB hK _ _ (h.fold hK _ (g.fI hl _ ?_))
    rw[g1];unfold jB;omega
  · exact g
theorem n8:∀n,JR (cn n)
  | 0=>fun K r v s _ g=>g.mono (by omega)
  | n+1=>fun K r v s hK g=>by
    have h:=n8 n
    have fail:LB K r (hP (cn n) v s.result c6):=h.res hK _ _ _ (g.mono (by omega))
    have call:∀peer pos ans,LB K r (gW (cn n) v (py v s) peer pos ans):=fun peer pos ans=>h.call hK v (py v s) peer pos ans g
    unfold cn
    split
    rotate_left
    · exact fail
    rename_i ht
    have hl:dU (kU v s).n v.entities.length=true:=by simp only[Bool.and_eq_true]at ht;exact ht.2
    split
    · split
      · exact(g.mono (by omega)).same rfl rfl
      · exact fail
    split
    · split
      · exact call _ _ _
      · exact fail
    split
    · split
      · split
        · refine(call _ _ _).fI ?_ _ (Nat.le_refl _)
          have:=(AQ (iI n) v (py v s) (aT v (kU v s).n).peer 0 (aT v (kU v s).n).pos).1
          rw[this];exact hl
        · exact fail
      split
      · exact fail
      split
      · refine g.fI hl _ ?_
        simp only[jB,vo,pq,List.map_append,List.map_cons,List.map_nil,List.sum_append,List.sum_cons,List.sum_nil,py];omega
      · exact fail
    · exact fail
structure GI (K:Nat) (v:aA):Prop where
  vi:VI v
  w:wV v≤K
  lb:LB K 0 v
  ne:0<v.entities.length
theorem GI.mono{K K':Nat}{v:aA}(h:GI K v)(hK:K≤K'):GI K' v:=⟨h.vi,by have:=h.w;omega,by obtain⟨N,h1,h2,h3⟩:=h.lb;exact⟨N,h1,by omega,h3⟩,h.ne⟩
theorem LB.Nn{K r:Nat}{v:aA}(h:LB K r v):∀l∈v.aq,gJ K l:=by
  obtain⟨N,h1,h2,_⟩:=h
  exact fun l hl=>(h1 l hl).mono (by omega)
end Go.Proofs.YtccjhmhkfnnmaaaGreat
namespace Go.Proofs.YtccjhmhkfnnmaaaGreat
open Go.AM
variable {Γ:cj}
def mh(l:List aH)(id:Int):Int:=match l.find? (fun q=>q.id == id)with|some q=>q.promise|none=>-1
theorem G4(β:Bool)(l:List aH)(hl:l.length≤1048576)(id:Int)(h:AH):T Tryz.prog Γ Fn.NI [.vs β 2 false (l.map (aH.c β)),.int .i64 id] h fun v h'=>v=.int .i64 (mh l id)∧h'=h:=by
  have L0:=dN β 2 false l (aH.c β)
  refine Tz (aD aJ aK [] _ _ _ ?_)
  unfold KX
  simp only[EZ,ag,Nat.reduceAdd,Nat.reduceBEq,zt]
  refine dD aJ aK [] (fun k:Nat=>k≤l.length∧∀(i:Nat) (hi:i<l.length),i<k→(l[i].id == id)=false) (fun k=>l.length-k)
    (fun k=>A7 (.vs β 2 false (l.map (aH.c β))) (.int .i64 id) (.int .i64 k) [] h) 0 ⟨by omega,fun i hi h=>by omega⟩ ⟨by simp[A7,eP,eM],rfl,rfl⟩ ?_
  rintro k ⟨hk,ht⟩
  simp only[EZ,ag,Nat.reduceAdd,Nat.reduceBEq,zt,A7,L0]
  refine bI (fun hlt=>?_) (fun hge=>?_)
  · have hlt:k<l.length:=by simpa using hlt
    have i0:=dy (β:=β) (sz:=2) (ex:=false) (ce:=aH.c β) hlt
    cases hp:l[k].id == id
    · simp only[EZ,ag,Nat.reduceAdd,Nat.reduceBEq,zt,i0,aH.c,hp]
      exact⟨k+1,⟨hlt,mc (P:=fun q:aH=>(q.id == id)=false) ht hp⟩,by omega,⟨by rw[wN (by omega)];simp[A7,eP,eM],rfl,rfl⟩⟩
    · simp only[EZ,ag,Nat.reduceAdd,Nat.reduceBEq,zt,i0,aH.c,hp]
      exact⟨rfl,by simp only[mh,Bk (p:=fun q:aH=>q.id == id) hlt ht hp]⟩
  · have hge:k=l.length:=by simp at hge;omega
    subst hge
    simp only[EZ,ag,Nat.reduceAdd,Nat.reduceBEq,zt]
    exact⟨rfl,by simp only[mh,vW (p:=fun q:aH=>q.id == id) ht]⟩
def AG(l:aC)(m:aB):Int:=if m.pos=0 then mh l.answers m.answer else dq l.exports m.pos
def pI(v:aA)(peer:Int)(m:aB):Int:=match v.aq.find? (fun l=>l.peer == peer)with|some l=>AG l m|none=>-1
theorem S2(β β':Bool)(v:aA)(hv:v.ok 1048576)(peer:Int)(m:aB)(h:AH):T Tryz.prog Γ Fn.U7 [.agg (v.c β),.int .i64 peer,.agg (m.c β')] h fun r h'=>r=.int .i64 (pI v peer m)∧h'=h:=by
  refine So (aD aJ aK [] _ _ _ ?_)
  unfold Kq
  simp only[EZ,ag,Nat.reduceAdd,Nat.reduceBEq,uA,lM,lG,aA.c,aB.c]
  refine ah.val (by simp only[EO]) (lf β v hv.2.2.2.2.1 peer _) ?_
  rcases eQ (fun l:aC=>l.peer == peer) v.aq with⟨k,hk,e1,e2,e3⟩|⟨e1,e2,e3⟩
  · have i0:=dy (β:=β) (sz:=7) (ex:=false) (ce:=aC.c β) hk
    have hlk:=hv.2.2.2.2.2.1 _ (List.getElem_mem hk)
    by_cases hz:m.pos=0
    · simp only[EZ,ag,Nat.reduceAdd,Nat.reduceBEq,uA,lM,lG,e1,show decide ((k:Int)<0)=false from by simp,i0,aA.c,aB.c,an,decide_eq_true hz,aC.c]
      refine ah.val (by simp only[EO]) (G4 β v.aq[k].answers hlk.2.2 m.answer _) ?_
      simp only[EZ,ag,Nat.reduceAdd,Nat.reduceBEq,uA,lM,lG]
      exact⟨rfl,by simp only[pI,e3,AG,if_pos hz]⟩
    · simp only[EZ,ag,Nat.reduceAdd,Nat.reduceBEq,uA,lM,lG,e1,show decide ((k:Int)<0)=false from by simp,i0,aA.c,aB.c,an,decide_eq_false hz,aC.c]
      refine ah.val (by simp only[EO]) (tr β v.aq[k] hlk.1 m.pos _) ?_
      simp only[EZ,ag,Nat.reduceAdd,Nat.reduceBEq,uA,lM,lG]
      exact⟨rfl,by simp only[pI,e3,AG,if_neg hz]⟩
  · simp only[EZ,ag,Nat.reduceAdd,Nat.reduceBEq,uA,lM,lG,e1,show decide ((-1:Int)<0)=true from rfl]
    exact⟨rfl,by simp only[pI,e2]⟩
theorem Qy(β:Bool)(l:List aH)(hl:l.length≤1048576)(id:Int)(h:AH):T Tryz.prog Γ Fn.Vi [.vs β 2 false (l.map (aH.c β)),.int .i64 id] h fun v h'=>v=.bool (l.any fun q=>q.id == id)∧h'=h:=by
  have L0:=dN β 2 false l (aH.c β)
  refine RM (aD aJ aK [] _ _ _ ?_)
  unfold Ld
  simp only[EZ,ag,Nat.reduceAdd,Nat.reduceBEq,xE]
  refine dD aJ aK [] (fun k:Nat=>k≤l.length∧∀(i:Nat) (hi:i<l.length),i<k→(l[i].id == id)=false) (fun k=>l.length-k)
    (fun k=>Bd (.vs β 2 false (l.map (aH.c β))) (.int .i64 id) (.int .i64 k) [] h) 0 ⟨by omega,fun i hi h=>by omega⟩ ⟨by simp[Bd,eP,eM],rfl,rfl⟩ ?_
  rintro k ⟨hk,ht⟩
  simp only[EZ,ag,Nat.reduceAdd,Nat.reduceBEq,xE,Bd,L0]
  refine bI (fun hlt=>?_) (fun hge=>?_)
  · have hlt:k<l.length:=by simpa using hlt
    have i0:=dy (β:=β) (sz:=2) (ex:=false) (ce:=aH.c β) hlt
    cases hp:l[k].id == id
    · simp only[EZ,ag,Nat.reduceAdd,Nat.reduceBEq,xE,i0,aH.c,hp]
      exact⟨k+1,⟨hlt,mc (P:=fun q:aH=>(q.id == id)=false) ht hp⟩,by omega,⟨by rw[wN (by omega)];simp[Bd,eP,eM],rfl,rfl⟩⟩
    · simp only[EZ,ag,Nat.reduceAdd,Nat.reduceBEq,xE,i0,aH.c,hp]
      have e:(l.any fun q=>q.id == id)=true:=List.any_eq_true.2 ⟨_,List.getElem_mem hlt,hp⟩
      rw[e]
      first|exact⟨rfl,rfl⟩|exact rfl|trivial
  · have hge:k=l.length:=by simp at hge;omega
    subst hge
    have e:(l.any fun q=>q.id == id)=false:=by
      rw[List.any_eq_false]
      intro x hx
      obtain⟨i,hi,rfl⟩:=List.getElem_of_mem hx
      simp[ht i hi hi]
    rw[e]
    simp only[EZ,ag,Nat.reduceAdd,Nat.reduceBEq,xE]
    first|exact⟨rfl,rfl⟩|exact rfl|trivial
theorem KT(n:Int)(h:AH):T Tryz.prog Γ Fn.EE [.int .i64 n] h fun v h'=>v=.bool (qe n 1 999999)∧h'=h:=by
  refine P0 (aD aJ aK [] _ _ _ ?_)
  unfold LI
  simp only[EZ,ag,Nat.reduceAdd,Nat.reduceBEq,F8]
  refine ah.val (by simp only[EO]) (dH n 1 999999 h) ?_
  simp only[EZ,ag,Nat.reduceAdd,Nat.reduceBEq,F8]
  first|exact⟨rfl,rfl⟩|exact rfl|trivial
def Cd(w:aV):Bool:=if w.kind=0 then qe w.n 0 999999 else if w.kind=1∨w.kind=2 then qe w.n 1 999999 else decide (w.kind=3) && decide (w.n=0)
theorem Ej(β:Bool)(w:aV)(h:AH):T Tryz.prog Γ Fn.N9 [.agg (w.c β)] h fun v h'=>v=.bool (Cd w)∧h'=h:=by
  refine UE (aD aJ aK [] _ _ _ ?_)
  unfold M1
  simp only[EZ,ag,Nat.reduceAdd,Nat.reduceBEq,wx,aV.c,aF,ae,an]
  repeat' (first
    | (guard_target =~ ah _ _ Fn.ke _ _ _;refine ah.val (by simp only[EO]) (dH _ _ _ _) ?_;simp only[EZ,ag,Nat.reduceAdd,Nat.reduceBEq,wx,aV.c,aF,ae,an])
    | (refine ny (fun hh=>?_) (fun hh=>?_)<;>simp only[EZ,ag,Nat.reduceAdd,Nat.reduceBEq,wx,hh,aV.c,aF,ae,an])
    | (refine mb (fun hh=>?_) (fun hh=>?_)<;>simp only[EZ,ag,Nat.reduceAdd,Nat.reduceBEq,wx,hh,aV.c,aF,ae,an])
    | (refine bI (fun hh=>?_) (fun hh=>?_)<;>simp only[EZ,ag,Nat.reduceAdd,Nat.reduceBEq,wx,hh,aV.c,aF,ae,an])
    | (first|(simp_all [Cd,Iu];done)|(simp_all [Cd,Iu];omega)))
end Go.Proofs.YtccjhmhkfnnmaaaGreat
namespace Go.Proofs.YtccjhmhkfnnmaaaGreat
open Go.AM
variable {Γ:cj}
def jC(peer pos:Int)(e:aE):Bool:=decide (e.kind=3) && (decide (e.peer=peer) && decide (e.pos=pos))
theorem UG(β:Bool)(v:aA)(hv:v.entities.length≤1048576)(peer pos:Int)(h:AH):T Tryz.prog Γ Fn.UX [.agg (v.c β),.int .i64 peer,.int .i64 pos] h fun r h'=>r=.int .i64 (dI (jC peer pos) v.entities)∧h'=h:=by
  have L0:=dN β 12 false v.entities (aE.c β)
  refine SG (aD aJ aK [] _ _ _ ?_)
  unfold Mw
  simp only[EZ,ag,Nat.reduceAdd,Nat.reduceBEq,tn,aF,aA.c]
  refine dD aJ aK [] (fun y:Nat×List (List AV)=>(y.1≤v.entities.length∧∀(i:Nat) (hi:i<v.entities.length),i<y.1→jC peer pos v.entities[i]=false)∧y.2[([]:List (List AV)).length]? = some (v.c β)) (fun y=>v.entities.length-y.1)
    (fun y=>C7 (.int .i64 peer) (.int .i64 pos) (.lp ([]:List (List AV)).length 0) (.int .i64 y.1) y.2 h) (0,_) ⟨⟨by simp,fun i hi h=>by simp only at h;omega⟩,rfl⟩ ⟨by simp[C7,eP,eM],rfl,rfl⟩ ?_
  rintro⟨k,M⟩ ⟨⟨hk,ht⟩,hM0⟩
  simp only at hk ht hM0
  have r0:∀(e:List AV) (h:AH) (off n:Nat),(St.mk e M h).cells (.lp ([]:List (List AV)).length off) n=sub (v.c β) off n:=fun e h off n=>cC hM0
  simp only[EZ,ag,Nat.reduceAdd,Nat.reduceBEq,tn,C7,r0,aA.c,L0]
  refine bI (fun hlt=>?_) (fun hge=>?_)
  rotate_left
  · have hge:k=v.entities.length:=by simp at hge;omega
    subst hge
    simp only[EZ,ag,Nat.reduceAdd,Nat.reduceBEq,tn]
    have:=kh (p:=jC peer pos) (l:=v.entities) fun i hi=>ht i hi hi
    rw[this]
    first|exact⟨rfl,rfl⟩|rfl|trivial
  have hlt:k<v.entities.length:=by simpa using hlt
  have i0:=dy (β:=β) (sz:=12) (ex:=false) (ce:=aE.c β) hlt
  obtain⟨e,he⟩:∃e,e=v.entities[k]:=⟨_,rfl⟩
  rw[←he]at i0
  have rl:∀(z:List AV) (e:List AV) (h:AH) (off n:Nat),(St.mk e (M++[z]) h).cells (.lp M.length off) n=sub z off n:=fun z e h off n=>cC (qN _ _)
  have nxt:jC peer pos e=false→∀(i:Nat) (hi:i<v.entities.length),i<k+1→jC peer pos v.entities[i]=false:=fun hp i hi hik=>by
    rcases Nat.lt_or_ge i k with g|g
    · exact ht i hi g
    · have:i=k:=by omega
      subst this
      rw[←he];exact hp
  have hM1:∀z,(M++[z])[([]:List (List AV)).length]? = some (v.c β):=fun z=>fo hM0 _
  by_cases b1:e.kind=3
  rotate_left
  · simp only[EZ,ag,Nat.reduceAdd,Nat.reduceBEq,tn,aF,r0,aA.c,L0,i0,aE.c,rl,ae,an,decide_eq_false b1]
    exact⟨(k+1,_),⟨⟨hlt,nxt (by simp[jC,b1])⟩,hM1 _⟩,by simp only;omega,⟨by rw[wN (by omega)];simp[eP,eM],rfl,rfl⟩⟩
  by_cases b2:e.peer=peer
  rotate_left
  · simp only[EZ,ag,Nat.reduceAdd,Nat.reduceBEq,tn,aF,r0,aA.c,L0,i0,aE.c,rl,ae,an,decide_eq_true b1,decide_eq_false b2]
    exact⟨(k+1,_),⟨⟨hlt,nxt (by simp[jC,b2])⟩,hM1 _⟩,by simp only;omega,⟨by rw[wN (by omega)];simp[eP,eM],rfl,rfl⟩⟩
  by_cases b3:e.pos=pos
  rotate_left
  · simp only[EZ,ag,Nat.reduceAdd,Nat.reduceBEq,tn,aF,r0,aA.c,L0,i0,aE.c,rl,ae,an,decide_eq_true b1,decide_eq_true b2,decide_eq_false b3]
    exact⟨(k+1,_),⟨⟨hlt,nxt (by simp[jC,b3])⟩,hM1 _⟩,by simp only;omega,⟨by rw[wN (by omega)];simp[eP,eM],rfl,rfl⟩⟩
  simp only[EZ,ag,Nat.reduceAdd,Nat.reduceBEq,tn,aF,r0,aA.c,L0,i0,aE.c,rl,ae,an,decide_eq_true b1,decide_eq_true b2,decide_eq_true b3]
  have:=kJ (p:=jC peer pos) hlt ht (by rw[←he];simp[jC,b1,b2,b3])
  rw[this]
  first|exact⟨rfl,rfl⟩|rfl|trivial
end Go.Proofs.YtccjhmhkfnnmaaaGreat
