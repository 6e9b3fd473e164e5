import Derived.Test.YtdlbaonelfcahaaGreatDoorR6G15
import Derived.Test.YtdlbaonelfcahaaGreatDoorR6G21
import Derived.Test.YtdlbaonelfcahaaGreatDoorAmG10
import Derived.Test.YtdlbaonelfcahaaGreatDoorAmG9
import Derived.Test.YtdlbaonelfcahaaGreatDoorAmG11
import Derived.Test.YtdlbaonelfcahaaGreatDoorR9M
set_option linter.unusedVariables false
set_option linter.unusedSimpArgs false
namespace Go.Proofs.YtdlbaonelfcahaaGreatDoor
open Go.AM
variable {Γ:bG}
theorem DD{α:Type}(p:α→Bool)(l:List α):decide (0≤jx p l)=l.any p:=by
  rcases qF p l with⟨k,hk,e1,e2,e3⟩|⟨e1,e2,e3⟩
  · rw[e1]
    have h2:l.any p=true:=List.any_eq_true.2 ⟨_,List.mem_of_find?_eq_some e3,List.find?_some e3⟩
    rw[h2];simp
  · rw[e1]
    have h2:l.any p=false:=by
      cases hh:l.any p
      · rfl
      · obtain⟨x,hx,hp⟩:=List.any_eq_true.1 hh
        have:=List.find?_eq_none.1 e2 x hx
        exact absurd hp this
    rw[h2];rfl
def A1(x:Int)(n:Nat):Bool:=decide (0≤x) && decide (x<n)
theorem yI(x:Int){n:Nat}(hn:n≤1048576):ku x 0 (IntKind.i64.wrap ((n:Int)-1))=A1 x n:=by
  have hw:IntKind.i64.wrap ((n:Int)-1)=(n:Int)-1:=aI (by omega) (by omega)
  rw[hw,ku,A1]
  congr 1
  rw[decide_eq_decide];omega
def gj(x:ae)(n:Nat):Bool:=if x.kind=0 then ku x.n 0 999999 else if x.kind=1 then A1 x.n n else decide (x.kind=2) && decide (x.n=0)
def gm(l:List ae)(n:Nat):Bool:=l.all fun x=>gj x n
theorem RF(β:Bool)(x:ae)(n:Nat)(hn:n≤1048576)(h:AH):T Tryz.prog Γ Fn.V0 [.agg (x.c β),.int .i64 n] h fun v h'=>v=.bool (gj x n)∧h'=h:=by
  refine LC (au aF mixed [] _ _ _ ?_)
  unfold Ij
  simp only[EZ,ah,Nat.reduceAdd,Nat.reduceBEq,sT,ae.c,bo,aE,ay]
  repeat' (first
    | (guard_target =~ aq _ _ Fn.zt _ _ _;refine aq.val (by simp only[EO]) (p7 _ _ _ _) ?_;simp only[EZ,ah,Nat.reduceAdd,Nat.reduceBEq,sT,ae.c,bo,aE,ay])
    | (refine jU (fun hh=>?_) (fun hh=>?_)<;>simp only[EZ,ah,Nat.reduceAdd,Nat.reduceBEq,sT,hh,ae.c,bo,aE,ay])
    | (refine js (fun hh=>?_) (fun hh=>?_)<;>simp only[EZ,ah,Nat.reduceAdd,Nat.reduceBEq,sT,hh,ae.c,bo,aE,ay])
    | (refine ba (fun hh=>?_) (fun hh=>?_)<;>simp only[EZ,ah,Nat.reduceAdd,Nat.reduceBEq,sT,hh,ae.c,bo,aE,ay])
    | (first|(simp_all [gj,yI,AI];done)|(simp_all [gj,yI,AI];omega)))
theorem RN(β:Bool)(x:ae)(n:Nat)(hn:n≤1048576)(h:AH):T Tryz.prog Γ Fn.VI [.agg (x.c β),.int .i64 n] h fun v h'=>v=.bool (gj x n)∧h'=h:=by
  refine Ox (au aF mixed [] _ _ _ ?_)
  unfold Jj
  simp only[EZ,ah,Nat.reduceAdd,Nat.reduceBEq,tX,ae.c,bo,aE,ay]
  repeat' (first
    | (guard_target =~ aq _ _ Fn.xq _ _ _;refine aq.val (by simp only[EO]) (ni _ _ _ _) ?_;simp only[EZ,ah,Nat.reduceAdd,Nat.reduceBEq,tX,ae.c,bo,aE,ay])
    | (refine jU (fun hh=>?_) (fun hh=>?_)<;>simp only[EZ,ah,Nat.reduceAdd,Nat.reduceBEq,tX,hh,ae.c,bo,aE,ay])
    | (refine js (fun hh=>?_) (fun hh=>?_)<;>simp only[EZ,ah,Nat.reduceAdd,Nat.reduceBEq,tX,hh,ae.c,bo,aE,ay])
    | (refine ba (fun hh=>?_) (fun hh=>?_)<;>simp only[EZ,ah,Nat.reduceAdd,Nat.reduceBEq,tX,hh,ae.c,bo,aE,ay])
    | (first|(simp_all [gj,A1,AI];done)|(simp_all [gj,A1,AI];omega)))
theorem all_false{α:Type}{l:List α}{p:α→Bool}{k:Nat}(hk:k<l.length)(h:p l[k]=false):l.all p=false:=by
  cases hh:l.all p
  · rfl
  · have:=List.all_eq_true.1 hh l[k] (List.getElem_mem hk);rw[h]at this;cases this
theorem all_true{α:Type}{l:List α}{p:α→Bool}(h:∀(i:Nat) (hi:i<l.length),i<l.length→p l[i]=true):l.all p=true:=
  List.all_eq_true.2 fun x hx=>by obtain⟨i,hi,rfl⟩:=List.getElem_of_mem hx;exact h i hi hi
theorem Dn{α:Type}(p:α→Bool)(l:List α):(!l.any fun x=>!p x)=l.all p:=by
  induction l with
  | nil=>rfl
  | cons x l ih=>simp only[List.any_cons,List.all_cons,←ih];cases p x<;>simp
theorem mD{g:FuncId}{caps:List AV}(hc:caps.all bX=true)(hc2:caps.all cB=true)(p:ae→Bool)(β:Bool)(l:List ae)(hl:l.length≤1048576){h:AH}(hp:∀x∈l,T Tryz.prog Γ g ([]++([.agg (x.c β)]++caps)) h fun v h'=>v=.bool (p x)∧h'=h):
    T Tryz.prog Γ Fn.WM [.vs β 2 false (l.map (ae.c β)),.fn g [] caps] h fun v h'=>v=.bool (l.any p)∧h'=h:=by
  have hcall:=fG (P:=Tryz.prog) (Γ:=Γ) aF mixed (sz:=2) (agg:=true) (fun hw=>L4 hw) (β:=β) (l:=l) (c:=ae.c β) (by omega) (fun x=>⟨⟨rfl,.inl rfl⟩,rfl⟩) (g:=g) (first:=[]) (caps:=caps) hc p (h:=h) hp
  refine Q0 (au aF mixed [] _ _ _ ?_)
  unfold JH
  simp only[EZ,ah,Nat.reduceAdd,Nat.reduceBEq,CU]
  refine aq.val (by simp only[EO,hc,hc2]) hcall ?_
  simp only[EZ,ah,Nat.reduceAdd,Nat.reduceBEq,CU]
  rw[show decide (jx p l≥0)=l.any p from DD p l]
  first|exact⟨rfl,rfl⟩|exact rfl
theorem Ry(β:Bool)(x:ae)(n:Nat)(hn:n≤1048576)(H:AH){k:Nat}(hk:bA H k=some (0,[.int .i64 n])):T Tryz.prog Γ Fn.VB [.agg (x.c β),.gp k 0 0] H fun v h'=>v=.bool (!gj x n)∧h'=H:=by
  have hc:∀(e:List AV) (l:List (List AV)) (off m:Nat),(St.mk e l H).cells (.gp k 0 off) m=sub [.int .i64 (n:Int)] off m:=fun e l off m=>ee hk
  refine SM (au aF mixed [] _ _ _ ?_)
  unfold GQ
  simp only[EZ,ah,Nat.reduceAdd,Nat.reduceBEq,CA,ae.c,hc]
  refine aq.val (by simp only[EO]) (RF β x n hn _) ?_
  simp only[EZ,ah,Nat.reduceAdd,Nat.reduceBEq,CA]
  first|exact⟨rfl,rfl⟩|exact rfl
theorem P0(β:Bool)(l:List ae)(hl:l.length≤1048576)(n:Nat)(hn:n≤1048576)(h:AH):T Tryz.prog Γ Fn.UD [.vs β 2 false (l.map (ae.c β)),.int .i64 n] h fun v h'=>v=.bool (gm l n)∧h'=h:=by
  refine(?_:T Tryz.prog Γ Fn.UD _ h fun v h'=>v=.bool (gm l n)∧∃N,h'=h++N).drop (by rintro v h' ⟨rfl,N,rfl⟩;exact⟨N,rfl,.bool _,rfl,rfl⟩)
  refine Sh (au aF mixed [3] _ _ _ ?_)
  unfold IV
  simp only[EZ,ah,Nat.reduceAdd,Nat.reduceBEq,CX,Bn _ _ (show List.all [AV.int .i64 n] bk=true from rfl),fU]
  refine aq.val (by simp only[EO]) (mD (g:=Fn.VB) (caps:=[.gp h.length 0 0]) rfl rfl (fun x=>!gj x n) β l hl (fun x hx=>Ry β x n hn _ (bC _ _))) ?_
  simp only[EZ,ah,Nat.reduceAdd,Nat.reduceBEq,CX]
  exact⟨rfl,by rw[Dn];rfl,_,rfl⟩
theorem Nf(β:Bool)(l:List ae)(hl:l.length≤1048576)(n:Nat)(hn:n≤1048576)(h:AH):T Tryz.prog Γ Fn.VP [.vs β 2 false (l.map (ae.c β)),.int .i64 n] h fun v h'=>v=.bool (gm l n)∧h'=h:=by
  have L0:=bH β 2 false l (ae.c β)
  refine Pg (au aF mixed [] _ _ _ ?_)
  unfold I5
  simp only[EZ,ah,Nat.reduceAdd,Nat.reduceBEq,qD,L0]
  refine bD aF mixed [] (fun k:Nat=>k≤l.length∧∀(i:Nat) (hi:i<l.length),i<k→gj l[i] n=true) (fun k=>l.length-k)
    (fun k=>uB (.vs β 2 false (l.map (ae.c β))) (.int .i64 n) (.int .i64 k) [] h) 0 ⟨by omega,fun i hi h=>by omega⟩ ⟨by simp[uB,cj,ck],rfl,rfl⟩ ?_
  rintro k ⟨hk,ht⟩
  simp only[EZ,ah,Nat.reduceAdd,Nat.reduceBEq,qD,uB,L0]
  refine ba (fun hlt=>?_) (fun hge=>?_)
  rotate_left
  · have hge:k=l.length:=by simp at hge;omega
    subst hge
    simp only[EZ,ah,Nat.reduceAdd,Nat.reduceBEq,qD]
    have:=all_true (p:=fun x=>gj x n) ht
    first|exact⟨rfl,by rw[gm,this]⟩|rw[gm,this]
  have hlt:k<l.length:=by simpa using hlt
  have i0:=bW (β:=β) (sz:=2) (ex:=false) (ce:=ae.c β) hlt
  simp only[EZ,ah,Nat.reduceAdd,Nat.reduceBEq,qD,i0,ae.c]
  refine aq.val (by simp only[EO]) (RN β l[k] n hn _) ?_
  cases hp:gj l[k] n
  · simp only[EZ,ah,Nat.reduceAdd,Nat.reduceBEq,qD]
    have:=all_false (p:=fun x=>gj x n) hlt hp
    first|exact⟨rfl,by rw[gm,this]⟩|rw[gm,this]
  · simp only[EZ,ah,Nat.reduceAdd,Nat.reduceBEq,qD]
    exact⟨k+1,⟨hlt,fun i hi hik=>by
      rcases Nat.lt_or_ge i k with g|g
      · exact ht i hi g
      · have:i=k:=by omega
        subst this;exact hp⟩,by omega,⟨by rw[wN (by omega)];simp[uB,cj,ck],rfl,rfl⟩⟩
theorem iZ{H:AH}{cells:List AV}{v:aS}{f:List Nat}(o:aV H cells v.cd f):∃wE w2 wL w4 fE f2 fL f4,cells=[.int .i64 v.id,wE,w2,wL,w4]∧f=fE++(f2++(fL++f4))∧bO H wE (.sl 12 (v.entities.map an.cd)) fE∧bO H w2 (.sl 7 (v.loop.map aA.cd)) f2∧bO H wL (.sl 7 (v.links.map aM.cd)) fL∧bO H w4 (.sl 13 (v.out.map aj.cd)) f4:=by
  simp only[aS.cd,cT,cO,dU,dT,dM]at o
  obtain⟨_,_,_,_,rfl,rfl,⟨rfl,rfl⟩,⟨wE,_,fE,_,rfl,rfl,oE,⟨w2,_,f2,_,rfl,rfl,o2,⟨wL,_,fL,_,rfl,rfl,oL,⟨w4,_,f4,_,rfl,rfl,o4,⟨rfl,rfl⟩⟩⟩⟩⟩⟩:=o
  exact⟨wE,w2,wL,w4,fE,f2,fL,f4,rfl,by simp,oE,o2,oL,o4⟩
theorem mi{H:AH}{row:List AV}{e:an}{f:List Nat}(o:aV H row e.cd f):∃wS wQ wA fS fQ fA,row=[.int .i64 e.kind,.int .i64 e.script,wS,.int .i64 e.state,.int .i64 e.value.kind,.int .i64 e.value.n,wQ,wA,.int .i64 e.peer,.int .i64 e.pos,.int .i64 e.count,.int .i64 e.sent]∧f=fS++(fQ++fA)∧
    bO H wS (.sl 2 (e.slots.map ae.cd)) fS∧bO H wQ (.sl 7 (e.queue.map aA.cd)) fQ∧bO H wA (.sl 2 (e.askers.map aH.cd)) fA:=by
  simp only[an.cd,cT,cO,dU,dT,dM]at o
  obtain⟨_,_,_,_,rfl,rfl,⟨rfl,rfl⟩,⟨_,_,_,_,rfl,rfl,⟨rfl,rfl⟩,⟨wS,_,fS,_,rfl,rfl,oS,⟨_,_,_,_,rfl,rfl,⟨rfl,rfl⟩,⟨_,_,_,_,rfl,rfl,⟨rfl,rfl⟩,⟨_,_,_,_,rfl,rfl,⟨rfl,rfl⟩,⟨wQ,_,fQ,_,rfl,rfl,oQ,⟨wA,_,fA,_,rfl,rfl,oA,
    ⟨_,_,_,_,rfl,rfl,⟨rfl,rfl⟩,⟨_,_,_,_,rfl,rfl,⟨rfl,rfl⟩,⟨_,_,_,_,rfl,rfl,⟨rfl,rfl⟩,⟨_,_,_,_,rfl,rfl,⟨rfl,rfl⟩,⟨rfl,rfl⟩⟩⟩⟩⟩⟩⟩⟩⟩⟩⟩⟩⟩:=o
  exact⟨wS,wQ,wA,fS,fQ,fA,rfl,by simp,oS,oQ,oA⟩
theorem zu{H:AH}{e:an}{wS wQ wA:AV}{fS fQ fA:List Nat}(oS:bO H wS (.sl 2 (e.slots.map ae.cd)) fS)(oQ:bO H wQ (.sl 7 (e.queue.map aA.cd)) fQ)(oA:bO H wA (.sl 2 (e.askers.map aH.cd)) fA):
    aV H [.int .i64 e.kind,.int .i64 e.script,wS,.int .i64 e.state,.int .i64 e.value.kind,.int .i64 e.value.n,wQ,wA,.int .i64 e.peer,.int .i64 e.pos,.int .i64 e.count,.int .i64 e.sent] e.cd (fS++(fQ++fA)):=by
  have e':fA=fA++[]:=by simp
  rw[e']
  exact .i (.i (.o oS (.i (.i (.i (.o oQ (.o oA (.i (.i (.i (.i .nil)))))))))))
def lb(v:aS)(e:an):aS:=if 200≤v.entities.length then v else { v with entities:=v.entities++[e] }
def pg(v:aS):Int:=if 200≤v.entities.length then -1 else v.entities.length
theorem El{H:AH}{z cells:List AV}(hz:z.length=cells.length)(hn:cells.all bk=true):∃H',(∀(e:List AV) (L:List (List AV)),(St.mk e L (H++[some (0,z)])).store (.gp H.length 0 0) cells=some ⟨e,L,H'⟩)∧bA H' H.length=some (0,cells)∧H'.length=H.length+1∧∀c,c<H.length→H'[c]? = H[c]?:=by
  obtain⟨H',s,m,l,r⟩:=(mH.nil (bC H (0,z))).store (i:=0) (vs:=cells) (by omega) hn
  refine⟨H',fun e L=>by simpa using s e L,?_,by rw[l];simp,fun c hc=>by rw[r c (by omega),List.getElem?_append_left hc]⟩
  have:=m.eq
  simp only[List.nil_append,List.append_nil]at this
  rw[this]
  simp[over,←hz]
def fa(script:Int)(l:List ae):an:=⟨1,script,l,0,⟨0,0⟩,[],[],0,0,0,0⟩
theorem LK(β:Bool)(script:Int)(l:List ae)(hl:l.length≤1048576)(h:AH):T Tryz.prog Γ Fn.U0 [.int .i64 script,.vs β 2 false (l.map (ae.c β))] h (bc h [.a (fa script l).cd]):=by
  refine T.ez ?_
  refine PA (au aF mixed [] _ _ _ ?_)
  unfold E5
  have ob:=dQ h 2
  obtain⟨v',H',fp',ea,o',nd',hf',hl',hm'⟩:=j7 (bytes:=16) (β:=β) (l:=l) (c:=ae.c β) (cd:=ae.cd) ob (by simp) (by omega) (fun x=>⟨rfl,rfl⟩) (fun x=>by simp[ae.c,ae.cd,CD.dD]) (by simp only[List.length_nil,Nat.zero_add,aX];omega)
  obtain⟨c1,c2,c3,c4⟩:=o'.cell
  have hx:cc h H':=⟨by simp at hl';omega,fun c hc=>by rw[hf' c (by simp;omega) (by simp;omega)];exact List.getElem?_append_left hc⟩
  simp only[EZ,ah,Nat.reduceAdd,Nat.reduceBEq,G9,EA,bo,gu,EF,ea,c1,c2,c3]
  obtain⟨N,rfl⟩:=hx.out
  have oo:aV (h++N) [.int .i64 1,.int .i64 script,v',.int .i64 0,.int .i64 0,.int .i64 0,.nils,.nils,.int .i64 0,.int .i64 0,.int .i64 0,.int .i64 0] (fa script l).cd fp':=by
    rw[List.nil_append]at o'
    have:=zu (e:=fa script l) (H:=h++N) o' (.nil 7) (.nil 2)
    simpa[fa]using this
  refine⟨by simp only[EO,cR,c1,c2,c3,c4],_,N,fp',rfl,rfl,oo,nd',fun c hc=>?_⟩
  rcases hm' c hc with g|g
  · rw[List.mem_singleton.1 g];exact Nat.le_refl _
  · simp at g;omega
set_option maxHeartbeats 4000000 in
set_option maxRecDepth 100000 in
theorem Np(β β':Bool)(v:aS)(hv:v.ok 1048576)(x:an)(hx:x.ok 1048576)(h:AH):T Tryz.prog Γ Fn.Vj [.agg (v.c β),.agg (x.c β')] h (bc h [.a (lb v x).cd,.c (.i .i64 (pg v))]):=by
  have LE:=bH β 12 false v.entities (an.c β)
  refine T.kb rfl ?_
  refine OH (au aF mixed [] _ _ _ ?_)
  unfold JY
  simp only[EZ,ah,Nat.reduceAdd,Nat.reduceBEq,wK,lG,l8,bo,gu,ER,aS.c,an.c]
  refine aq.ref (by simp only[EO]) (Gm β v hv _) ?_
  rintro _ H1 fr
  replace fr:bc h _ _ _:=fr
  obtain⟨aw,fw,rfl,ow,nw,bw,ew⟩:=fr.a1
  obtain⟨wE,w2,wL,w4,fE,f2,fL,f4,rfl,rfl,oE,o2,oL,o4⟩:=iZ ow
  obtain⟨a1,a2,a3,a4⟩:=oE.cell
  obtain⟨b1,b2,b3,b4⟩:=o2.cell
  obtain⟨c1,c2,c3,c4⟩:=oL.cell
  obtain⟨d1,d2,d3,d4⟩:=o4.cell
  by_cases hf:200≤v.entities.length
  · have e:lb v x=v:=by rw[lb,if_pos hf]
    have e2:pg v = -1:=by rw[pg,if_pos hf]
    simp only[EZ,ah,Nat.reduceAdd,Nat.reduceBEq,wK,lG,l8,bo,gu,ER,aS.c,an.c,LE,a1,a2,a3,b1,b2,b3,c1,c2,c3,d1,d2,d3,show decide ((v.entities.length:Int)≥200)=true from decide_eq_true (by omega),show decide ((200:Int)≤(v.entities.length:Int))=true from decide_eq_true (by omega)]
    obtain⟨N,rfl⟩:=ew.out
    exact⟨by simp only[List.all_cons,List.all_nil,EO,a3,b3,c3,d3],_,N,_,by rw[e2,CD.dD],rfl,by rw[e];exact ow,nw,bw⟩
  simp only[EZ,ah,Nat.reduceAdd,Nat.reduceBEq,wK,lG,l8,bo,gu,ER,aS.c,an.c,LE,a1,a2,a3,b1,b2,b3,c1,c2,c3,d1,d2,d3,show decide ((v.entities.length:Int)≥200)=false from decide_eq_false (by omega),show decide ((200:Int)≤(v.entities.length:Int))=false from decide_eq_false (by omega)]
  refine aq.ref (by simp only[EO]) (Gb β' x hx _) ?_
  rintro _ H2 fr
  replace fr:bc H1 _ _ _:=fr
  obtain⟨ax,fx,rfl,ox,nx,bx,ex⟩:=fr.a1
  have nE:fE.Nodup:=(List.nodup_append.1 nw).1
  have nd2:(fE++fx).Nodup:=List.nodup_append.2 ⟨nE,nx,fun c hc d hd e=>by have:=oE.lt c hc;have:=bx d hd;omega⟩
  obtain⟨v',H3,fE',ea,o',nd',hf',hl',hm'⟩:=dz (bytes:=144) (oE.ext ex) nd2 (by omega) (by rw[ox.len];rfl) ox (by simp only[List.length_map,aX];omega)
  obtain⟨j1,j2,j3,j4⟩:=o'.cell
  refine⟨gA rfl,?_⟩
  obtain⟨wS,wQ,wA,fS,fQ,fA,rfl,_,oS,oQ,oA⟩:=mi ox
  obtain⟨x1,x2,x3,x4⟩:=oS.cell
  obtain⟨x5,x6,x7,x8⟩:=oQ.cell
  obtain⟨x9,xa,xb,xc⟩:=oA.cell
  simp only[EZ,ah,Nat.reduceAdd,Nat.reduceBEq,wK,lG,l8,EA,bo,gu,ER,aS.c,an.c,LE,a1,a2,a3,b1,b2,b3,c1,c2,c3,d1,d2,d3,x1,x2,x3,x5,x6,x7,x9,xa,xb,ea,j1,j2,j3]
  refine⟨fun r hr=>?_,?_⟩
  · have:r=22:=by simpa using hr
    subst this
    exact fun n cs hc=>hc
  have hEx:=ex.len
  have hEw:=ew.len
  obtain⟨nE',nR,dER⟩:=List.nodup_append.1 nw
  have ltw:=fun c hc=>ow.lt c hc
  have oth:∀c∈f2++(fL++f4),H3[c]? = H1[c]?:=fun c hc=>by
    have hl:=ltw c (List.mem_append_right _ hc)
    rw[hf' c (fun h=>dER c h c hc rfl) (by omega),ex.fr c hl]
  have e:lb v x={ v with entities:=v.entities++[x] }:=by rw[lb,if_neg hf]
  have e2:pg v=(v.entities.length:Int):=by rw[pg,if_neg hf]
  have own:aV H3 [.int .i64 v.id,v',w2,wL,w4] (lb v x).cd (fE'++(f2++(fL++f4))):=by
    rw[e]
    have:=aV.i (k:=.i64) (n:=v.id) (aV.o (by simpa using o':bO H3 v' (.sl 12 ((v.entities++[x]).map an.cd)) fE') (aV.o (o2.frame fun c hc=>oth c (by simp[hc])) (aV.o (oL.frame fun c hc=>oth c (by simp[hc])) (aV.o (o4.frame fun c hc=>oth c (by simp[hc])) (.nil)))))
    simpa[aS.cd]using this
  have ex3:cc h H3:=⟨by omega,fun c hc=>by
    rw[hf' c (fun g=>by have:=bw c (List.mem_append_left _ g);omega) (by omega),ex.fr c (by omega),ew.fr c hc]⟩
  obtain⟨N,hN⟩:=ex3.out
  have oM:∀c∈fE'++(f2++(fL++f4)),h.length≤c:=fun c hc=>by
    rcases List.mem_append.1 hc with g|g
    · rcases hm' c g with q|q|q
      · exact bw c (List.mem_append_left _ q)
      · have:=bx c q;omega
      · omega
    · exact bw c (List.mem_append_right _ g)
  have ndd:(fE'++(f2++(fL++f4))).Nodup:=List.nodup_append.2 ⟨nd',nR,fun c hc d hd e=>by
    subst e
    have hl:=ltw c (List.mem_append_right _ hd)
    rcases hm' c hc with q|q|q
    · exact dER c q c hd rfl
    · have:=bx c q;omega
    · omega⟩
  first|exact⟨by simp only[List.all_cons,List.all_nil,EO,j3,j4,b3,b4,c3,c4,d3,d4],_,N,_,by rw[e2,CD.dD],hN,own,ndd,oM⟩|exact⟨_,N,_,by rw[e2,CD.dD],hN,own,ndd,oM⟩|trace_state
set_option maxHeartbeats 1000000 in
theorem NA(v:aS)(x:an)(H:AH){b:Nat}{f:List Nat}(a:yw H b v f){am:List AV}{fm:List Nat}(om:aV H am x.cd fm)(nm:fm.Nodup)(dm:∀c∈fm,c∉f∧c≠b):
    T Tryz.prog Γ Fn.Xi [.gp b 0 0,.agg am] H fun r H'=>r=.int .i64 (pg v)∧y9 H b (fun c=>c∈f∨c∈fm) H' (lb v x):=by
  obtain⟨wE,w2,wL,w4,fE,f2,fL,f4,rfl,o⟩:=a
  have hb:=o.hb
  have bf:=o.bf
  have blt:=o.blt
  have vlt:=o.lt
  have cb:∀(e:List AV) (L:List (List AV)) (off n:Nat),(St.mk e L H).cells (.gp b 0 off) n=sub [.int .i64 v.id,wE,w2,wL,w4] off n:=fun e L off n=>ee hb
  obtain⟨a1,a2,a3,a4⟩:=o.oE.cell
  obtain⟨b1,b2,b3,b4⟩:=o.o2.cell
  obtain⟨c1,c2,c3,c4⟩:=o.oL.cell
  obtain⟨d1,d2,d3,d4⟩:=o.o4.cell
  obtain⟨_,lE⟩:=gM o.oE
  rw[List.length_map]at lE
  have oo:=om
  simp only[an.cd,cT,cO,dU,dT,dM]at oo
  obtain⟨_,_,_,_,rfl,_,⟨rfl,rfl⟩,⟨_,_,_,_,rfl,_,⟨rfl,rfl⟩,⟨az2,_,_,_,rfl,_,uz2,⟨_,_,_,_,rfl,_,⟨rfl,rfl⟩,⟨_,_,_,_,rfl,_,⟨rfl,rfl⟩,⟨_,_,_,_,rfl,_,⟨rfl,rfl⟩,⟨az6,_,_,_,rfl,_,uz6,⟨az7,_,_,_,rfl,_,uz7,⟨_,_,_,_,rfl,_,⟨rfl,rfl⟩,⟨_,_,_,_,rfl,_,⟨rfl,rfl⟩,⟨_,_,_,_,rfl,_,⟨rfl,rfl⟩,⟨_,_,_,_,rfl,_,⟨rfl,rfl⟩,⟨rfl,_⟩⟩⟩⟩⟩⟩⟩⟩⟩⟩⟩⟩⟩:=oo
  obtain⟨cz2a,cz2b,cz2c,cz2d⟩:=uz2.cell
  obtain⟨cz6a,cz6b,cz6c,cz6d⟩:=uz6.cell
  obtain⟨cz7a,cz7b,cz7c,cz7d⟩:=uz7.cell
  refine OP (au aF mixed [] _ _ _ ?_)
  unfold Jo
  simp only[EZ,ah,Nat.reduceAdd,Nat.reduceBEq,zg,qp,bo,cb]
  by_cases hf:200≤v.entities.length
  · simp only[EZ,ah,Nat.reduceAdd,Nat.reduceBEq,zg,qp,cb,lE,show decide ((200:Int)≤(v.entities.length:Int))=true from decide_eq_true (by omega),show decide ((v.entities.length:Int)≥200)=true from decide_eq_true (by omega)]
    have e:lb v x=v:=by rw[lb,if_pos hf]
    have e2:pg v = -1:=by rw[pg,if_pos hf]
    rw[e,e2]
    first|exact⟨rfl,rfl,y9.refl o.at fun c hc=>.inl hc⟩|exact⟨rfl,y9.refl o.at fun c hc=>.inl hc⟩|exact y9.refl o.at fun c hc=>.inl hc
  have nd2:(fE++fm).Nodup:=List.nodup_append.2 ⟨o.nE,nm,fun x hx y hy e=>(dm y hy).1 (jF.2 (.inl (e▸hx)))⟩
  obtain⟨v',H1,fE',ea,o',nd',hf',hl',hm'⟩:=dz (bytes:=144) o.oE nd2 (by omega) rfl om (by simp only[List.length_map,aX];omega)
  obtain⟨j1,j2,j3,j4⟩:=o'.cell
  obtain⟨_,lE'⟩:=gM o'
  simp only[List.length_append,List.length_map,List.length_cons,List.length_nil,Nat.zero_add]at lE'
  have hb1:bA H1 b=some (0,[.int .i64 v.id,wE,w2,wL,w4]):=by rw[dJ (hf' b o.bE blt)];exact hb
  obtain⟨H2,s2,hb2,l2,r2⟩:=KR hb1 (i:=1) (w:=v') (by simp) j3
  have cb2:∀(e:List AV) (L:List (List AV)) (off n:Nat),(St.mk e L H2).cells (.gp b 0 off) n=sub [.int .i64 v.id,v',w2,wL,w4] off n:=fun e L off n=>ee hb2
  simp only[EZ,ah,Nat.reduceAdd,Nat.reduceBEq,zg,qp,EA,bo,cb,lE,show decide ((200:Int)≤(v.entities.length:Int))=false from decide_eq_false (by omega),show decide ((v.entities.length:Int)≥200)=false from decide_eq_false (by omega),cz2a,cz2b,cz2c,cz6a,cz6b,cz6c,cz7a,cz7b,cz7c,ea,j1,j2,j3,s2,cb2,lE']
  have e:lb v x={ v with entities:=v.entities++[x] }:=by rw[lb,if_neg hf]
  have e2:pg v=IntKind.i64.wrap (((v.entities.length+1:Nat):Int)-1):=by rw[pg,if_neg hf,aI (by omega) (by omega)];omega
  rw[e,e2]
  have o2:=o.VC (G:=fm) (es':=v.entities++[x]) (fE':=fE') hb2 ((by simpa using o':bO H1 v' (.sl 12 ((v.entities++[x]).map an.cd)) fE').frame fun c hc=>r2 c (fun e=>by
    subst e
    rcases hm' c hc with g|g|g
    · exact o.bE g
    · exact(dm c g).2 rfl
    · omega)) nd' hm' dm (by omega) (fun c h1 h2 h3 h4=>by rw[r2 c h3,hf' c h1 h4])
  have fin:y9 H b (fun c=>c∈yR fE f2 fL f4∨c∈fm) H2 { v with entities:=v.entities++[x] }:=o2.up (by omega) (fun c hc=>by
    rcases jF.1 hc with g|g|g|g
    · rcases hm' c g with q|q|q
      · exact .inl (.inl (jF.2 (.inl q)))
      · exact .inl (.inr q)
      · exact .inr q
    · exact .inl (.inl (jF.2 (.inr (.inl g))))
    · exact .inl (.inl (jF.2 (.inr (.inr (.inl g)))))
    · exact .inl (.inl (jF.2 (.inr (.inr (.inr g)))))) (fun c h1 h2 h3=>by rw[r2 c h2,hf' c (fun h=>h1 (.inl (jF.2 (.inl h)))) h3])
  first|exact⟨rfl,rfl,fin⟩|exact⟨rfl,fin⟩|exact fin
end Go.Proofs.YtdlbaonelfcahaaGreatDoor
namespace Go.Proofs.YtdlbaonelfcahaaGreatDoor
open Go.AM
variable {Γ:bG}
def rI(v:aS)(t:Int):Bool:=gm [⟨1,t⟩] v.entities.length
def dK(v:aS)(t:Int):aS:=if rI v t then lb v (fa 1 [⟨1,t⟩])else v
def kG(v:aS)(t:Int):Int:=if rI v t then pg v else -1
theorem pc(s:Int)(l:List ae)(hl:l.length≤1048576):(fa s l).ok 1048576:=⟨hl,by simp[fa],by simp[fa],by simp[fa]⟩
theorem C2:ku 1 0 5=true:=rfl
theorem PV(β β':Bool)(v:aS)(hv:v.ok 1048576)(t:Int)(h:AH):T Tryz.prog Γ Fn.Vq [.agg (v.c β),.int .i64 1,.vs β' 2 false ([(⟨1,t⟩:ae)].map (ae.c β'))] h (bc h [.a (dK v t).cd,.c (.i .i64 (kG v t))]):=by
  have LE:=bH β 12 false v.entities (an.c β)
  have L0:=bH β' 2 false [(⟨1,t⟩:ae)] (ae.c β')
  rw[show[(⟨1,t⟩:ae)].length=1 from rfl]at L0
  have av:=fun h=>Nf (Γ:=Γ) β' [(⟨1,t⟩:ae)] (by simp) v.entities.length hv.1 h
  have no:=fun h=>LK (Γ:=Γ) β' 1 [(⟨1,t⟩:ae)] (by simp) h
  have ot:bX (AV.vs β' 2 false ([(⟨1,t⟩:ae)].map (ae.c β')))=true:=rfl
  have ol:cB (AV.vs β' 2 false ([(⟨1,t⟩:ae)].map (ae.c β')))=true:=rfl
  have ce:gm [(⟨1,t⟩:ae)] v.entities.length=rI v t:=rfl
  rw[ce]at av
  have g3:decide (((1:Nat):Int)>3)=false:=rfl
  have g4:decide ((3:Int)<((1:Nat):Int))=false:=rfl
  generalize AV.vs β' 2 false ([(⟨1,t⟩:ae)].map (ae.c β'))=a0 at *
  refine T.kb rfl ?_
  refine TN (au aF mixed [] _ _ _ ?_)
  unfold Je
  simp only[EZ,ah,Nat.reduceAdd,Nat.reduceBEq,nM,hR,bo,gu,ER,aS.c,L0,LE]
  refine aq.val (by simp only[EO]) (ni _ _ _ _) ?_
  simp only[EZ,ah,Nat.reduceAdd,Nat.reduceBEq,nM,hR,bo,gu,ER,aS.c,L0,LE,C2,Bool.not_true,g3,g4]
  refine aq.val (by simp only[EO,ot]) (av _) ?_
  cases e:rI v t
  · simp only[dK,kG,e,Bool.false_eq_true,if_false]
    simp only[EZ,ah,Nat.reduceAdd,Nat.reduceBEq,nM,hR,bo,gu,ER,aS.c,L0,LE,Bool.not_false]
    refine aq.ref (by simp only[EO]) (Gm β v hv _) ?_
    rintro _ H1 fr
    replace fr:bc h _ _ _:=fr
    obtain⟨aw,fw,rfl,ow,nw,bw,ew⟩:=fr.a1
    obtain⟨wE,w2,wL,w4,fE,f2,fL,f4,rfl,rfl,oE,o2,oL,o4⟩:=iZ ow
    obtain⟨a1,a2,a3,a4⟩:=oE.cell
    obtain⟨b1,b2,b3,b4⟩:=o2.cell
    obtain⟨c1,c2,c3,c4⟩:=oL.cell
    obtain⟨d1,d2,d3,d4⟩:=o4.cell
    simp only[EZ,ah,Nat.reduceAdd,Nat.reduceBEq,nM,hR,bo,gu,ER,aS.c,L0,LE,a1,a2,a3,b1,b2,b3,c1,c2,c3,d1,d2,d3]
    obtain⟨N,rfl⟩:=ew.out
    exact⟨by simp only[List.all_cons,List.all_nil,EO,a3,b3,c3,d3],_,N,_,rfl,rfl,ow,nw,bw⟩
  · simp only[dK,kG,e,if_true]
    simp only[EZ,ah,Nat.reduceAdd,Nat.reduceBEq,nM,hR,bo,gu,ER,aS.c,L0,LE,Bool.not_true]
    refine aq.ref (by simp only[EO,ot]) (no _) ?_
    rintro _ H1 fr
    replace fr:bc h _ _ _:=fr
    obtain⟨ax,fx,rfl,ox,nx,bx,ex⟩:=fr.a1
    obtain⟨wS,wQ,wA,fS,fQ,fA,rfl,rfl,oS,oQ,oA⟩:=mi ox
    obtain⟨x1,x2,x3,x4⟩:=oS.cell
    obtain⟨x5,x6,x7,x8⟩:=oQ.cell
    obtain⟨x9,xa,xb,xc⟩:=oA.cell
    simp only[EZ,ah,Nat.reduceAdd,Nat.reduceBEq,nM,hR,bo,gu,ER,aS.c,L0,LE,x1,x2,x3,x5,x6,x7,x9,xa,xb]
    refine⟨gA rfl,?_⟩
    refine aq.own (by simp only[EO,List.all_cons,List.all_nil,x1,x2,x3,x4,x5,x6,x7,x8,x9,xa,xb,xc,Bool.and_self]) (bY (.same _) (bY (aV.jE (an.cr true _) ox) dR)) (Np β true v hv (fa 1 [(⟨1,t⟩:ae)]) (pc _ _ (by simp))) ?_
    rintro _ H2 fr
    replace fr:bc H1 _ _ _:=fr
    obtain⟨ag,fg,rfl,og,ng,bg,eg⟩:=fr.a2 rfl
    obtain⟨wE,w2,wL,w4,fE,f2,fL,f4,rfl,rfl,oE,o2,oL,o4⟩:=iZ og
    obtain⟨a1,a2,a3,a4⟩:=oE.cell
    obtain⟨b1,b2,b3,b4⟩:=o2.cell
    obtain⟨c1,c2,c3,c4⟩:=oL.cell
    obtain⟨d1,d2,d3,d4⟩:=o4.cell
    simp only[EZ,ah,Nat.reduceAdd,Nat.reduceBEq,nM,hR,bo,gu,ER,EF,aS.c,CD.dD,a1,a2,a3,b1,b2,b3,c1,c2,c3,d1,d2,d3]
    obtain⟨N,hN⟩:=(ex.trans eg).out
    have bb:∀c∈fE++(f2++(fL++f4)),h.length≤c:=fun c hc=>by have:=bg c hc;have:=ex.len;omega
    exact⟨by simp only[List.all_cons,List.all_nil,EO,a3,b3,c3,d3],_,N,_,rfl,hN,og,ng,bb⟩
theorem Qt(β:Bool)(script:Int)(l:List ae)(hl:l.length≤1048576)(h:AH):T Tryz.prog Γ Fn.WC [.int .i64 script,.vs β 2 false (l.map (ae.c β))] h (bc h [.a (fa script l).cd]):=by
  have cl:=fun h=>jC (Γ:=Γ) β l hl h
  have ot:bX (AV.vs β 2 false (l.map (ae.c β)))=true:=rfl
  have ol:cB (AV.vs β 2 false (l.map (ae.c β)))=true:=rfl
  generalize AV.vs β 2 false (l.map (ae.c β))=a0 at *
  refine T.ez ?_
  refine Ug (au aF mixed [] _ _ _ ?_)
  unfold ET
  simp only[EZ,ah,Nat.reduceAdd,Nat.reduceBEq,Cf,bo,gu,ER]
  refine aq.ref (by simp only[EO,ot]) (cl _) ?_
  rintro w H1 fr
  replace fr:bc h _ _ _:=fr
  obtain⟨fp,o',nd',bb,ex⟩:=fr.c1
  obtain⟨c1,c2,c3,c4⟩:=o'.cell
  simp only[EZ,ah,Nat.reduceAdd,Nat.reduceBEq,Cf,bo,gu,ER,EF,c1,c2,c3]
  obtain⟨N,rfl⟩:=ex.out
  have oo:=zu (e:=fa script l) (H:=h++N) o' (.nil 7) (.nil 2)
  refine⟨by first|(simp only[EO,cR,c1,c2,c3,c4];done)|(simp only[cR,List.all_cons,List.all_nil,c3];rfl),_,N,fp++([]++[]),rfl,rfl,oo,by simpa using nd',by simpa using bb⟩
theorem Qf(β β':Bool)(v:aS)(hv:v.ok 1048576)(t:Int)(h:AH):T Tryz.prog Γ Fn.Vu [.agg (v.c β),.int .i64 1,.vs β' 2 false ([(⟨1,t⟩:ae)].map (ae.c β'))] h (bc h [.a (dK v t).cd,.c (.i .i64 (kG v t))]):=by
  have LE:=bH β 12 false v.entities (an.c β)
  have L0:=bH β' 2 false [(⟨1,t⟩:ae)] (ae.c β')
  rw[show[(⟨1,t⟩:ae)].length=1 from rfl]at L0
  have av:=fun h=>P0 (Γ:=Γ) β' [(⟨1,t⟩:ae)] (by simp) v.entities.length hv.1 h
  have no:=fun h=>Qt (Γ:=Γ) β' 1 [(⟨1,t⟩:ae)] (by simp) h
  have ot:bX (AV.vs β' 2 false ([(⟨1,t⟩:ae)].map (ae.c β')))=true:=rfl
  have ol:cB (AV.vs β' 2 false ([(⟨1,t⟩:ae)].map (ae.c β')))=true:=rfl
  have ce:gm [(⟨1,t⟩:ae)] v.entities.length=rI v t:=rfl
  rw[ce]at av
  have g3:decide (((1:Nat):Int)>3)=false:=rfl
  have g4:decide ((3:Int)<((1:Nat):Int))=false:=rfl
  generalize AV.vs β' 2 false ([(⟨1,t⟩:ae)].map (ae.c β'))=a0 at *
  refine T.kb rfl ?_
  refine Me (au aF mixed [8] _ _ _ ?_)
  unfold Iy
  simp only[EZ,ah,Nat.reduceAdd,Nat.reduceBEq,ny,bo,gu,ER,EF,aS.c,L0,LE]
  refine aq.ref (by simp only[EO]) (SZ β v hv _) ?_
  rintro w H1 fr
  replace fr:bc h _ _ _:=fr
  obtain⟨ac,f,rfl,o,nd,bb,eg⟩:=fr.a1
  obtain⟨wE,w2,wL,w4,fE,f2,fL,f4,rfl,rfl,oE,o2,oL,o4⟩:=CY o
  obtain⟨a1,a2,a3,a4⟩:=oE.cell
  obtain⟨b1,b2,b3,b4⟩:=o2.cell
  obtain⟨c1,c2,c3,c4⟩:=oL.cell
  obtain⟨d1,d2,d3,d4⟩:=o4.cell
  obtain⟨H2,s2,hb2,l2,r2⟩:=El (H:=H1) (z:=[.int .i64 0,.nils,.nils,.nils,.nils]) (cells:=[.int .i64 v.id,wE,w2,wL,w4]) rfl (by simp only[u9,uJ,a3,b3,c3,d3];rfl)
  have lt1:∀c∈fE++(f2++(fL++f4)),c<H1.length:=fun c hc=>o.lt c hc
  have vat2:yw H2 H1.length v (fE++(f2++(fL++f4))):=yw.of hb2 (o.frame fun c hc=>r2 c (lt1 c hc)) nd (fun hc=>Nat.lt_irrefl _ (lt1 _ hc))
  simp only[EZ,ah,Nat.reduceAdd,Nat.reduceBEq,ny,bo,gu,ER,EF,EA,oU _ _ (show List.all [AV.int .i64 0,.nils,.nils,.nils,.nils] bk=true from rfl),fU,a1,a2,a3,b1,b2,b3,c1,c2,c3,d1,d2,d3,s2,L0,LE]
  refine aq.val (by simp only[EO]) (p7 _ _ _ _) ?_
  simp only[EZ,ah,Nat.reduceAdd,Nat.reduceBEq,ny,bo,gu,ER,EF,aS.c,L0,LE,C2,Bool.not_true,g3,g4]
  refine aq.val (by simp only[EO,ot]) (av _) ?_
  cases e:rI v t
  · simp only[dK,kG,e,Bool.false_eq_true,if_false]
    have cb2:∀(e:List AV) (L:List (List AV)) (off n:Nat),(St.mk e L H2).cells (.gp H1.length 0 off) n=sub _ off n:=fun e L off n=>ee hb2
    simp only[EZ,ah,Nat.reduceAdd,Nat.reduceBEq,ny,bo,gu,ER,EF,aS.c,L0,LE,Bool.not_false,cb2,a1,a2,a3,b1,b2,b3,c1,c2,c3,d1,d2,d3]
    have ex2:cc h H2:=⟨by have:=eg.len;omega,fun c hc=>by have:=eg.len;rw[r2 c (by omega),eg.fr c hc]⟩
    obtain⟨N,hN⟩:=ex2.out
    exact⟨by first|(simp only[cR,List.all_cons,List.all_nil,EO,a3,b3,c3,d3];done)|(simp only[cR,List.all_cons,List.all_nil,a3,b3,c3,d3];rfl),_,N,_,rfl,hN,o.frame fun c hc=>r2 c (lt1 c hc),nd,bb⟩
  · simp only[dK,kG,e,if_true]
    simp only[EZ,ah,Nat.reduceAdd,Nat.reduceBEq,ny,bo,gu,ER,EF,aS.c,L0,LE,Bool.not_true]
    refine aq.ref (by simp only[EO,ot]) (no _) ?_
    rintro _ H3 fr
    replace fr:bc H2 _ _ _:=fr
    obtain⟨ax,fx,rfl,ox,nx,bx,ex⟩:=fr.a1
    obtain⟨wS,wQ,wA,fS,fQ,fA,rfl,rfl,oS,oQ,oA⟩:=mi ox
    obtain⟨x1,x2,x3,x4⟩:=oS.cell
    obtain⟨x5,x6,x7,x8⟩:=oQ.cell
    obtain⟨x9,xa,xb,xc⟩:=oA.cell
    have lE2:=ex.len
    have vat3:yw H3 H1.length v (fE++(f2++(fL++f4))):=vat2.frame fun c hc=>ex.fr c (by
      rcases hc with g|g
      · have:=lt1 c g;omega
      · omega)
    simp only[EZ,ah,Nat.reduceAdd,Nat.reduceBEq,ny,bo,gu,ER,EF,aS.c,L0,LE,x1,x2,x3,x5,x6,x7,x9,xa,xb]
    refine aq.ref (by simp only[EO,List.all_cons,List.all_nil,x1,x2,x3,x4,x5,x6,x7,x8,x9,xa,xb,xc,Bool.and_self]) (NA v (fa 1 [(⟨1,t⟩:ae)]) H3 vat3 ox nx (fun c hc=>⟨fun g=>by have:=bx c hc;have:=lt1 c g;omega,fun g=>by have:=bx c hc;omega⟩)) ?_
    rintro _ H4 ⟨rfl,f3,a3v,l3,m3,r3⟩
    replace l3:H3.length≤H4.length:=l3
    replace m3:∀c∈f3,(c∈fE++(f2++(fL++f4))∨c∈fS++(fQ++fA))∨H3.length≤c:=m3
    replace r3:∀c,¬(c∈fE++(f2++(fL++f4))∨c∈fS++(fQ++fA))→c≠H1.length→c<H3.length→H4[c]? = H3[c]?:=r3
    obtain⟨wE',w2',wL',w4',fE',f2',fL',f4',rfl,o3⟩:=a3v
    obtain⟨aa1,aa2,aa3,aa4⟩:=o3.oE.cell
    obtain⟨bb1,bb2,bb3,bb4⟩:=o3.o2.cell
    obtain⟨cc1,cc2,cc3,cc4⟩:=o3.oL.cell
    obtain⟨dd1,dd2,dd3,dd4⟩:=o3.o4.cell
    have cb3:∀(e:List AV) (L:List (List AV)) (off n:Nat),(St.mk e L H4).cells (.gp H1.length 0 off) n=sub _ off n:=fun e L off n=>ee o3.hb
    have nd3:=o3.nodup
    have hlen:=eg.len
    have ex3:cc h H4:=⟨by omega,fun c hc=>by
      rw[r3 c (fun g=>by
        rcases g with g|g
        · have:=bb c g;omega
        · have:=bx c g;omega) (by omega) (by omega),ex.fr c (by omega),r2 c (by omega),eg.fr c hc]⟩
    have bb3':∀c∈yR fE' f2' fL' f4',h.length≤c:=fun c hc=>by
      rcases m3 c hc with(g|g)|g
      · exact bb c g
      · have:=bx c g;omega
      · omega
    have own3:=o3.own
    obtain⟨N,hN⟩:=ex3.out
    simp only[EZ,ah,Nat.reduceAdd,Nat.reduceBEq,ny,bo,gu,ER,EF,EA,cb3,aa1,aa2,aa3,bb1,bb2,bb3,cc1,cc2,cc3,dd1,dd2,dd3]
    exact⟨by first|simp only[List.all_cons,List.all_nil,EO,aa3,aa4,bb3,bb4,cc3,cc4,dd3,dd4]|(simp only[cR,EO,aa3,aa4,bb3,bb4,cc3,cc4,dd3,dd4])|(show bX _=true;simp only[EO,aa3,aa4,bb3,bb4,cc3,cc4,dd3,dd4]),_,N,_,rfl,hN,own3,nd3,bb3'⟩
end Go.Proofs.YtdlbaonelfcahaaGreatDoor
namespace Go.Proofs.YtdlbaonelfcahaaGreatDoor
open Go.AM
variable {Γ:bG}
def gK:ByteArray:=⟨#[103,97,116,101]⟩
theorem yD:∃hi:1<dP.length,(dP[1]'hi).name=gK∧∀k,(hk:k<1)→¬(dP[k]'(by omega)).name=(dP[1]'hi).name:=by
  have hi:1<dP.length:=by rw[j9];omega
  have h1:(dP[1]?).map aB.name=some gK:=by decide +kernel
  have h0:(dP[0]?).map aB.name≠some gK:=by decide +kernel
  rw[List.getElem?_eq_getElem hi]at h1
  rw[List.getElem?_eq_getElem (show 0<dP.length by omega)]at h0
  simp only[Option.map_some,Option.some.injEq,ne_eq]at h1 h0
  refine⟨hi,h1,fun k hk=>?_⟩
  obtain rfl:k=0:=by omega
  rw[h1];exact h0
theorem od(h:AH):T Tryz.prog Γ Fn.Lk [.vs false 2 false (dP.map (aB.c false)),.str gK] h fun v h'=>v=.int .i64 1∧h'=h:=by
  obtain⟨hi,e,n⟩:=yD
  have:=Gj (Γ:=Γ) false dP (by rw[j9];omega) hi n h
  rw[e]at this
  exact this
theorem Re(β:Bool)(x:aB)(nm:ByteArray)(H:AH){p:AV}(hp:Ptr H p [.str nm]):T Tryz.prog Γ Fn.JJ [.agg (x.c β),p] H fun v h'=>v=.bool (decide (x.name=nm))∧h'=H:=by
  have hc:∀(e:List AV) (l:List (List AV)),(St.mk e l H).cells p 1=some [.str nm]:=fun e l=>hp.rd0 e l 0 (by simp)
  refine HX (au aF mixed [] _ _ _ ?_)
  unfold AO
  simp only[EZ,ah,Nat.reduceAdd,Nat.reduceBEq,AZ,EB,bo,aB.c,bB,hc]
  first|exact⟨rfl,rfl⟩|exact rfl|trivial
theorem Cw:jx (fun x:aB=>decide (x.name=gK)) dP=1:=by
  obtain⟨hi,e,n⟩:=yD
  exact yM hi (fun i h1 h2=>decide_eq_false (by rw[←e];exact n i h2)) (decide_eq_true e)
theorem nZ(h:AH):T Tryz.prog Γ Fn.Kx [.vs false 2 false (dP.map (aB.c false)),.str gK] h fun v h'=>v=.int .i64 1∧h'=h:=by
  have ot:bX (AV.vs false 2 false (dP.map (aB.c false)))=true:=rfl
  have hp:Ptr (h++[some (0,[.str gK])]) (.gp h.length 0 0) [.str gK]:=Ptr.V3 (bC _ _)
  have hidx:T Tryz.prog Γ Fn.Vf [.vs false 2 false (dP.map (aB.c false)),.fn Fn.JJ [] [.gp h.length 0 0]] (h++[some (0,[.str gK])]) fun v h'=>v=.int .i64 1∧h'=h++[some (0,[.str gK])]:=by
    have:=fG (P:=Tryz.prog) (Γ:=Γ) aF mixed (sz:=2) (agg:=true) (fun hw=>HV hw) (β:=false) (l:=dP) (c:=aB.c false) (by rw[j9];omega) (fun x=>⟨⟨rfl,.inl rfl⟩,rfl⟩) (g:=Fn.JJ) (first:=[]) (caps:=[.gp h.length 0 0]) rfl (fun x=>decide (x.name=gK)) (h:=h++[some (0,[.str gK])]) (fun x hx=>Re false x gK _ hp)
    rw[Cw]at this
    exact this
  refine T.RW ?_
  refine Iv (au aF mixed [3] _ _ _ ?_)
  unfold BG
  simp only[EZ,ah,Nat.reduceAdd,Nat.reduceBEq,wo,EB,Bn _ _ (show List.all [AV.str gK] bk=true from rfl),fU]
  refine aq.val (by simp only[EO,ot,bX,bk,cB,List.all_cons,List.all_nil,Bool.and_self]) hidx ?_
  simp only[EZ,ah,Nat.reduceAdd,Nat.reduceBEq,wo,EB]
  first|exact⟨rfl,rfl,_,rfl⟩|exact⟨rfl,_,rfl⟩|exact⟨_,rfl⟩
theorem Qx(n:Int)(h:AH):T Tryz.prog Γ Fn.U5 [.int .i64 n] h fun v h'=>v=.agg [.int .i64 1,.int .i64 n]∧h'=h:=by
  refine TX (au aF mixed [] _ _ _ ?_)
  unfold FQ
  simp only[EZ,ah,Nat.reduceAdd,Nat.reduceBEq,Gz,bo,gu,ER]
  first|exact⟨rfl,rfl⟩|exact rfl|trivial
theorem Oo(n:Int)(h:AH):T Tryz.prog Γ Fn.UH [.int .i64 n] h fun v h'=>v=.agg [.int .i64 1,.int .i64 n]∧h'=h:=by
  refine NL (au aF mixed [] _ _ _ ?_)
  unfold Hx
  simp only[EZ,ah,Nat.reduceAdd,Nat.reduceBEq,FG,bo,gu,ER]
  first|exact⟨rfl,rfl⟩|exact rfl|trivial
theorem MT(β:Bool)(v:aS)(hv:v.ok 1048576)(t:Int)(h:AH):T Tryz.prog Γ Fn.Vo [.agg (v.c β),.int .i64 t] h (bc h [.a (dK v t).cd,.c (.i .i64 (kG v t))]):=by
  have pl:=fun h=>Ri (Γ:=Γ) h
  have fg:=fun h=>od (Γ:=Γ) h
  have ot:bX (AV.vs false 2 false (dP.map (aB.c false)))=true:=rfl
  have ol:cB (AV.vs false 2 false (dP.map (aB.c false)))=true:=rfl
  unfold gK at fg
  generalize AV.vs false 2 false (dP.map (aB.c false))=a0 at *
  have ob:bO (h++[some (0,[AV.int .i64 1,AV.int .i64 t])]) (.gs h.length 0 0 1 1 2 true) (.sl 2 ([(⟨1,t⟩:ae)].map ae.cd)) (h.length::[]):=vP (sz:=2) h rfl (.i (.i .nil))
  refine T.kb rfl ?_
  refine QQ (au aF mixed [] _ _ _ ?_)
  unfold Fx
  simp only[EZ,ah,Nat.reduceAdd,Nat.reduceBEq,sw,jA,bo,gu,ER,aS.c]
  refine aq.val (by simp only[EO]) (pl _) ?_
  refine⟨gA rfl,?_⟩
  simp only[EZ,ah,Nat.reduceAdd,Nat.reduceBEq,sw,jA,bo,gu,ER,aS.c]
  refine aq.val (by simp only[EO,ot]) (fg _) ?_
  refine⟨gA rfl,?_⟩
  simp only[EZ,ah,Nat.reduceAdd,Nat.reduceBEq,sw,jA,bo,gu,ER,aS.c]
  refine aq.val (by simp only[EO]) (Qx t _) ?_
  refine⟨gA rfl,?_⟩
  simp only[EZ,ah,Nat.reduceAdd,Nat.reduceBEq,sw,jA,EA,bo,gu,ER,EF,aS.c]
  refine aq.own (by simp only[EO]) (bY (.same _) (bY (.same _) (bY (bO.jE (ae.cr true) ob) dR))) (PV β true v hv t) ?_
  rintro _ H2 fr
  replace fr:bc (h++[some (0,[AV.int .i64 1,AV.int .i64 t])]) _ _ _:=fr
  obtain⟨ag,fg,rfl,og,ng,bg,eg⟩:=fr.a2 rfl
  obtain⟨wE,w2,wL,w4,fE,f2,fL,f4,rfl,rfl,oE,o2,oL,o4⟩:=iZ og
  obtain⟨a1,a2,a3,a4⟩:=oE.cell
  obtain⟨b1,b2,b3,b4⟩:=o2.cell
  obtain⟨c1,c2,c3,c4⟩:=oL.cell
  obtain⟨d1,d2,d3,d4⟩:=o4.cell
  have e1:(dK v t).id=v.id:=by
    unfold dK lb;split
    · split<;>rfl
    · rfl
  simp only[EZ,ah,Nat.reduceAdd,Nat.reduceBEq,sw,jA,bo,gu,ER,EF,aS.c,CD.dD,a1,a2,a3,b1,b2,b3,c1,c2,c3,d1,d2,d3]
  obtain⟨N,hN⟩:=((cc.app h _).trans eg).out
  have bb:∀c∈fE++(f2++(fL++f4)),h.length≤c:=fun c hc=>by have:=bg c hc;simp at this;omega
  exact⟨by simp only[List.all_cons,List.all_nil,EO,a3,b3,c3,d3],_,N,_,rfl,hN,og,ng,bb⟩
theorem H5(hΓ:ik Γ)(β:Bool)(v:aS)(hv:v.ok 1048576)(t:Int)(h:AH):T Tryz.prog Γ Fn.PU [.agg (v.c β),.int .i64 t] h (bc h [.a (dK v t).cd,.c (.i .i64 (kG v t))]):=by
  have pl:=fun h=>PL (Γ:=Γ) hΓ h
  have fg:=fun h=>nZ (Γ:=Γ) h
  have ot:bX (AV.vs false 2 false (dP.map (aB.c false)))=true:=rfl
  have ol:cB (AV.vs false 2 false (dP.map (aB.c false)))=true:=rfl
  unfold gK at fg
  generalize AV.vs false 2 false (dP.map (aB.c false))=a0 at *
  have ob:bO (h++[some (0,[AV.int .i64 1,AV.int .i64 t])]) (.gs h.length 0 0 1 1 2 true) (.sl 2 ([(⟨1,t⟩:ae)].map ae.cd)) (h.length::[]):=vP (sz:=2) h rfl (.i (.i .nil))
  refine T.kb rfl ?_
  refine PF (au aF mixed [] _ _ _ ?_)
  unfold Fg
  simp only[EZ,ah,Nat.reduceAdd,Nat.reduceBEq,rp,jJ,bo,gu,ER,aS.c]
  refine aq.val (by simp only[EO]) (pl _) ?_
  refine⟨gA rfl,?_⟩
  simp only[EZ,ah,Nat.reduceAdd,Nat.reduceBEq,rp,jJ,bo,gu,ER,aS.c]
  refine aq.val (by simp only[EO,ot]) (fg _) ?_
  refine⟨gA rfl,?_⟩
  simp only[EZ,ah,Nat.reduceAdd,Nat.reduceBEq,rp,jJ,bo,gu,ER,aS.c]
  refine aq.val (by simp only[EO]) (Oo t _) ?_
  refine⟨gA rfl,?_⟩
  simp only[EZ,ah,Nat.reduceAdd,Nat.reduceBEq,rp,jJ,EA,bo,gu,ER,EF,aS.c]
  refine aq.own (by simp only[EO]) (bY (.same _) (bY (.same _) (bY (bO.jE (ae.cr true) ob) dR))) (Qf β true v hv t) ?_
  rintro _ H2 fr
  replace fr:bc (h++[some (0,[AV.int .i64 1,AV.int .i64 t])]) _ _ _:=fr
  obtain⟨ag,fg,rfl,og,ng,bg,eg⟩:=fr.a2 rfl
  obtain⟨wE,w2,wL,w4,fE,f2,fL,f4,rfl,rfl,oE,o2,oL,o4⟩:=iZ og
  obtain⟨a1,a2,a3,a4⟩:=oE.cell
  obtain⟨b1,b2,b3,b4⟩:=o2.cell
  obtain⟨c1,c2,c3,c4⟩:=oL.cell
  obtain⟨d1,d2,d3,d4⟩:=o4.cell
  have e1:(dK v t).id=v.id:=by
    unfold dK lb;split
    · split<;>rfl
    · rfl
  simp only[EZ,ah,Nat.reduceAdd,Nat.reduceBEq,rp,jJ,bo,gu,ER,EF,aS.c,CD.dD,a1,a2,a3,b1,b2,b3,c1,c2,c3,d1,d2,d3]
  obtain⟨N,hN⟩:=((cc.app h _).trans eg).out
  have bb:∀c∈fE++(f2++(fL++f4)),h.length≤c:=fun c hc=>by have:=bg c hc;simp at this;omega
  exact⟨by simp only[List.all_cons,List.all_nil,EO,a3,b3,c3,d3],_,N,_,rfl,hN,og,ng,bb⟩
end Go.Proofs.YtdlbaonelfcahaaGreatDoor
namespace Go.Proofs.YtdlbaonelfcahaaGreatDoor
open Go.AM
variable {Γ:bG}
theorem C4(v:aS)(hv:v.ok 1048576)(t:Int):(dK v t).ok 1048576:=by
  unfold dK
  split
  · unfold lb
    split
    · exact hv
    · refine⟨by simp only[List.length_append,List.length_cons,List.length_nil];omega,fun y hy=>?_,hv.2.2⟩
      rcases List.mem_append.1 hy with g|g
      · exact hv.2.1 y g
      · rw[List.mem_singleton.1 g]
        exact pc 1 [⟨1,t⟩] (by simp)
  · exact hv
theorem Lq(a:aS)(oa:a.ok 1048576)(t:Int) (h:AH):T Tryz.prog Γ Fn.Vo [.agg (a.c false),.int .i64 t] h fun v h'=>v=.tup [.agg ((dK a t).c false),.int .i64 (kG a t)]∧h'=h:=by
  have:=(MT (Γ:=Γ) false a oa t h).frozen
  simpa only[List.map_cons,List.map_nil,oW,oq,D5,Dw,CD.eG,CD.dD,CD.hY,CD.gQ,List.map_map,Function.comp_def,aS.cr]using this
theorem Mx(hΓ:ik Γ)(a:aS)(oa:a.ok 1048576)(t:Int) (h:AH):T Tryz.prog Γ Fn.PU [.agg (a.c false),.int .i64 t] h fun v h'=>v=.tup [.agg ((dK a t).c false),.int .i64 (kG a t)]∧h'=h:=by
  have:=(H5 hΓ false a oa t h).frozen
  simpa only[List.map_cons,List.map_nil,oW,oq,D5,Dw,CD.eG,CD.dD,CD.hY,CD.gQ,List.map_map,Function.comp_def,aS.cr]using this
theorem wu(hΓ:ik Γ)(a:aS)(ha:a.ok maxLen)(t:Int) (h:AH):T Tryz.prog Γ Fn.Xk [.agg (a.c false),.int .i64 t] h fun v h'=>v=.bool true∧h'=h:=by
  refine(?_:T Tryz.prog Γ Fn.Xk _ h fun v h'=>v=.bool true∧∃N,h'=h++N).drop (by rintro v h' ⟨rfl,N,rfl⟩;exact⟨N,rfl,.bool _,rfl,rfl⟩)
  refine LJ (au aF mixed [] _ _ _ ?_)
  unfold Jr
  simp only[EZ,ah,Nat.reduceAdd,Nat.reduceBEq,fv,cw,bo,gu,ER,bne_self_eq_false,beq_self_eq_true,decide_true,aS.c]
  refine aq.val (by simp only[EO,aS.cF]) (Tj false a ha 1048576 (by omega) (by omega) _) ?_
  simp only[EZ,ah,Nat.reduceAdd,Nat.reduceBEq,fv,cw,bo,gu,ER,bne_self_eq_false,beq_self_eq_true,decide_true,aS.c]
  by_cases na:(a.dE 1048576)<0
  · simp only[EZ,ah,Nat.reduceAdd,Nat.reduceBEq,fv,cw,bo,gu,ER,bne_self_eq_false,beq_self_eq_true,decide_true,aS.c,decide_eq_true na]
    first|exact⟨rfl,rfl,[],by simp⟩|exact⟨rfl,[],by simp⟩|exact⟨[],by simp⟩
  have qa:=aS.cP a 1048576 (by omega) (by omega) (Int.not_lt.1 na)
  simp only[EZ,ah,Nat.reduceAdd,Nat.reduceBEq,fv,cw,bo,gu,ER,bne_self_eq_false,beq_self_eq_true,decide_true,aS.c,decide_eq_false na]
  have oa:=qa.1
  refine aq.val (by simp only[EO,aS.cF]) (CN false a oa _) ?_
  simp only[EZ,ah,Nat.reduceAdd,Nat.reduceBEq,fv,cw,bo,gu,ER,bne_self_eq_false,beq_self_eq_true,decide_true,aS.c]
  refine aq.val (by simp only[EO,aS.cF]) (Lq a oa t _) ?_
  simp only[EZ,ah,Nat.reduceAdd,Nat.reduceBEq,fv,cw,bo,gu,ER,bne_self_eq_false,beq_self_eq_true,decide_true,aS.c]
  have rok:=C4 a oa t
  have xh:cc h h:=cc.refl h
  refine aq.ref (by simp only[EO,aS.cF]) (Gp false a oa _) ?_
  have xh0:=xh
  rintro _ H1 fr
  replace fr:bc h _ _ _:=fr
  obtain⟨as_xa,f_xa,rfl,o_xa,n_xa,b_xa,e_xa⟩:=fr.a1
  have ooxa:=o_xa
  simp only[aS.cd,cT,cO,dU,dT,dM]at ooxa
  obtain⟨_,_,_,_,rfl,_,⟨rfl,rfl⟩,⟨axa1,_,_,_,rfl,_,uxa1,⟨axa2,_,_,_,rfl,_,uxa2,⟨axa3,_,_,_,rfl,_,uxa3,⟨axa4,_,_,_,rfl,_,uxa4,⟨rfl,_⟩⟩⟩⟩⟩⟩:=ooxa
  obtain⟨cxa1a,cxa1b,cxa1c,cxa1d⟩:=uxa1.cell
  obtain⟨cxa2a,cxa2b,cxa2c,cxa2d⟩:=uxa2.cell
  obtain⟨cxa3a,cxa3b,cxa3c,cxa3d⟩:=uxa3.cell
  obtain⟨cxa4a,cxa4b,cxa4c,cxa4d⟩:=uxa4.cell
  have xh:=xh.trans e_xa
  have g_xa:∀c∈f_xa,h.length≤c:=fun c hc=>by have:=b_xa c hc;have:=xh0.len;omega
  simp only[EZ,ah,Nat.reduceAdd,Nat.reduceBEq,fv,cw,bo,gu,ER,bne_self_eq_false,beq_self_eq_true,decide_true,aS.c,cxa1a,cxa1b,cxa1c,cxa2a,cxa2b,cxa2c,cxa3a,cxa3b,cxa3c,cxa4a,cxa4b,cxa4c]
  refine aq.own (by simp only[EO,aS.cF,cxa1d,cxa1c,cxa2d,cxa2c,cxa3d,cxa3c,cxa4d,cxa4c]) (bY (aV.jE (aS.cr true _) o_xa) (bY (.same _) dR)) (H5 hΓ true a oa t) ?_
  have xh0:=xh
  rintro _ H2 fr
  replace fr:bc H1 _ _ _:=fr
  obtain⟨as_g,f_g,rfl,o_g,n_g,b_g,e_g⟩:=(fr.a2 rfl)
  have oog:=o_g
  simp only[aS.cd,cT,cO,dU,dT,dM]at oog
  obtain⟨_,_,_,_,rfl,_,⟨rfl,rfl⟩,⟨ag1,_,_,_,rfl,_,ug1,⟨ag2,_,_,_,rfl,_,ug2,⟨ag3,_,_,_,rfl,_,ug3,⟨ag4,_,_,_,rfl,_,ug4,⟨rfl,_⟩⟩⟩⟩⟩⟩:=oog
  obtain⟨cg1a,cg1b,cg1c,cg1d⟩:=ug1.cell
  obtain⟨cg2a,cg2b,cg2c,cg2d⟩:=ug2.cell
  obtain⟨cg3a,cg3b,cg3c,cg3d⟩:=ug3.cell
  obtain⟨cg4a,cg4b,cg4c,cg4d⟩:=ug4.cell
  have xh:=xh.trans e_g
  have d_xa_g:∀c,c∈f_xa→c∉f_g:=fun c h1 h2=>by have:=o_xa.lt c h1;have:=b_g c h2;omega
  replace o_xa:=o_xa.ext e_g
  have g_g:∀c∈f_g,h.length≤c:=fun c hc=>by have:=b_g c hc;have:=xh0.len;omega
  simp only[EZ,ah,Nat.reduceAdd,Nat.reduceBEq,fv,cw,bo,gu,ER,bne_self_eq_false,beq_self_eq_true,decide_true,aS.c,cxa1a,cxa1b,cxa1c,cxa2a,cxa2b,cxa2c,cxa3a,cxa3b,cxa3c,cxa4a,cxa4b,cxa4c,cg1a,cg1b,cg1c,cg2a,cg2b,cg2c,cg3a,cg3b,cg3c,cg4a,cg4b,cg4c,CD.dD]
  refine aq.jE (by simp only[EO,aS.cF,cxa1d,cxa1c,cxa2d,cxa2c,cxa3d,cxa3c,cxa4d,cxa4c,cg1d,cg1c,cg2d,cg2c,cg3d,cg3c,cg4d,cg4c]) (bY (aV.jE (aS.cr true _) o_g) (bY (.same _) dR)) (fun h=>zR true false (dK a t) (dK a t) (rok.mono (by omega)) h) (.bool _) ?_
  simp only[EZ,ah,Nat.reduceAdd,Nat.reduceBEq,fv,cw,bo,gu,ER,bne_self_eq_false,beq_self_eq_true,decide_true,aS.c,cxa1a,cxa1b,cxa1c,cxa2a,cxa2b,cxa2c,cxa3a,cxa3b,cxa3c,cxa4a,cxa4b,cxa4c,cg1a,cg1b,cg1c,cg2a,cg2b,cg2c,cg3a,cg3b,cg3c,cg4a,cg4b,cg4c,CD.dD]
  refine aq.val (by simp only[EO,aS.cF,cxa1d,cxa1c,cxa2d,cxa2c,cxa3d,cxa3c,cxa4d,cxa4c,cg1d,cg1c,cg2d,cg2c,cg3d,cg3c,cg4d,cg4c]) (CN false a oa _) ?_
  simp only[EZ,ah,Nat.reduceAdd,Nat.reduceBEq,fv,cw,bo,gu,ER,bne_self_eq_false,beq_self_eq_true,decide_true,aS.c,cxa1a,cxa1b,cxa1c,cxa2a,cxa2b,cxa2c,cxa3a,cxa3b,cxa3c,cxa4a,cxa4b,cxa4c,cg1a,cg1b,cg1c,cg2a,cg2b,cg2c,cg3a,cg3b,cg3c,cg4a,cg4b,cg4c,CD.dD]
  refine aq.jE (by simp only[EO,aS.cF,cxa1d,cxa1c,cxa2d,cxa2c,cxa3d,cxa3c,cxa4d,cxa4c,cg1d,cg1c,cg2d,cg2c,cg3d,cg3c,cg4d,cg4c]) (bY (aV.jE (aS.cr true _) o_xa) (bY (.same _) dR)) (fun h=>zR true false (a) (a) (oa.mono (by omega)) h) (.bool _) ?_
  simp only[EZ,ah,Nat.reduceAdd,Nat.reduceBEq,fv,cw,bo,gu,ER,bne_self_eq_false,beq_self_eq_true,decide_true,aS.c,cxa1a,cxa1b,cxa1c,cxa2a,cxa2b,cxa2c,cxa3a,cxa3b,cxa3c,cxa4a,cxa4b,cxa4c,cg1a,cg1b,cg1c,cg2a,cg2b,cg2c,cg3a,cg3b,cg3c,cg4a,cg4b,cg4c,CD.dD]
  have cl_xa:=aS.gN (a) oa
  have cn_xa:=aS.gT (a)
  refine aq.ref (by simp only[EO,aS.cF,cxa1d,cxa1c,cxa2d,cxa2c,cxa3d,cxa3c,cxa4d,cxa4c,cg1d,cg1c,cg2d,cg2c,cg3d,cg3c,cg4d,cg4c]) (Hm (a) (1) (by omega) (by omega) (oa.mono (by omega)) _ o_xa n_xa) ?_
  rintro _ H3 ⟨rfl,hl,hf,o_xa⟩
  replace hl:H3.length=H2.length:=hl
  replace hf:∀c,c∉f_xa→H3[c]? = H2[c]?:=hf
  replace o_g:=o_g.frame fun c hc=>hf c (fun h2=>d_xa_g c h2 hc)
  replace xh:=xh.mark hl hf g_xa
  simp only[EZ,ah,Nat.reduceAdd,Nat.reduceBEq,fv,cw,bo,gu,ER,bne_self_eq_false,beq_self_eq_true,decide_true,aS.c,cxa1a,cxa1b,cxa1c,cxa2a,cxa2b,cxa2c,cxa3a,cxa3b,cxa3c,cxa4a,cxa4b,cxa4c,cg1a,cg1b,cg1c,cg2a,cg2b,cg2c,cg3a,cg3b,cg3c,cg4a,cg4b,cg4c,CD.dD]
  have yk:decide (1+aS.cW (a)<0)=false:=decide_eq_false (by omega)
  simp only[EZ,ah,Nat.reduceAdd,Nat.reduceBEq,fv,cw,bo,gu,ER,bne_self_eq_false,beq_self_eq_true,decide_true,aS.c,cxa1a,cxa1b,cxa1c,cxa2a,cxa2b,cxa2c,cxa3a,cxa3b,cxa3c,cxa4a,cxa4b,cxa4c,cg1a,cg1b,cg1c,cg2a,cg2b,cg2c,cg3a,cg3b,cg3c,cg4a,cg4b,cg4c,CD.dD,yk]
  refine aq.jE (by simp only[EO,aS.cF,cxa1d,cxa1c,cxa2d,cxa2c,cxa3d,cxa3c,cxa4d,cxa4c,cg1d,cg1c,cg2d,cg2c,cg3d,cg3c,cg4d,cg4c]) (bY (aV.jE (aS.cr true _) o_g) (bY (.same _) dR)) (fun h=>zR true false (dK a t) (dK a t) (rok.mono (by omega)) h) (.bool _) ?_
  simp only[EZ,ah,Nat.reduceAdd,Nat.reduceBEq,fv,cw,bo,gu,ER,bne_self_eq_false,beq_self_eq_true,decide_true,aS.c,cxa1a,cxa1b,cxa1c,cxa2a,cxa2b,cxa2c,cxa3a,cxa3b,cxa3c,cxa4a,cxa4b,cxa4c,cg1a,cg1b,cg1c,cg2a,cg2b,cg2c,cg3a,cg3b,cg3c,cg4a,cg4b,cg4c,CD.dD,yk]
  have cl_g:=aS.gN (dK a t) rok
  have cn_g:=aS.gT (dK a t)
  refine aq.ref (by simp only[EO,aS.cF,cxa1d,cxa1c,cxa2d,cxa2c,cxa3d,cxa3c,cxa4d,cxa4c,cg1d,cg1c,cg2d,cg2c,cg3d,cg3c,cg4d,cg4c]) (Hm (dK a t) (1) (by omega) (by omega) (rok.mono (by omega)) _ o_g n_g) ?_
  rintro _ H4 ⟨rfl,hl,hf,o_g⟩
  replace hl:H4.length=H3.length:=hl
  replace hf:∀c,c∉f_g→H4[c]? = H3[c]?:=hf
  replace o_xa:=o_xa.frame fun c hc=>hf c (d_xa_g c hc)
  replace xh:=xh.mark hl hf g_g
  simp only[EZ,ah,Nat.reduceAdd,Nat.reduceBEq,fv,cw,bo,gu,ER,bne_self_eq_false,beq_self_eq_true,decide_true,aS.c,cxa1a,cxa1b,cxa1c,cxa2a,cxa2b,cxa2c,cxa3a,cxa3b,cxa3c,cxa4a,cxa4b,cxa4c,cg1a,cg1b,cg1c,cg2a,cg2b,cg2c,cg3a,cg3b,cg3c,cg4a,cg4b,cg4c,CD.dD,yk]
  have ym:decide (1+aS.cW (dK a t)<0)=false:=decide_eq_false (by omega)
  refine aq.jE (by simp only[EO,aS.cF,cxa1d,cxa1c,cxa2d,cxa2c,cxa3d,cxa3c,cxa4d,cxa4c,cg1d,cg1c,cg2d,cg2c,cg3d,cg3c,cg4d,cg4c]) (bY (aV.jE (aS.cr true _) o_g) (bY (.same _) dR)) (fun h=>GI true (dK a t) 1 (by omega) (by omega) (rok.mono (by omega)) h) (.int _ _) ?_
  simp only[EZ,ah,Nat.reduceAdd,Nat.reduceBEq,fv,cw,bo,gu,ER,bne_self_eq_false,beq_self_eq_true,decide_true,aS.c,cxa1a,cxa1b,cxa1c,cxa2a,cxa2b,cxa2c,cxa3a,cxa3b,cxa3c,cxa4a,cxa4b,cxa4c,cg1a,cg1b,cg1c,cg2a,cg2b,cg2c,cg3a,cg3b,cg3c,cg4a,cg4b,cg4c,CD.dD,yk,ym]
  refine aq.val (by simp only[EO,aS.cF,cxa1d,cxa1c,cxa2d,cxa2c,cxa3d,cxa3c,cxa4d,cxa4c,cg1d,cg1c,cg2d,cg2c,cg3d,cg3c,cg4d,cg4c]) (CN false a oa _) ?_
  simp only[EZ,ah,Nat.reduceAdd,Nat.reduceBEq,fv,cw,bo,gu,ER,bne_self_eq_false,beq_self_eq_true,decide_true,aS.c,cxa1a,cxa1b,cxa1c,cxa2a,cxa2b,cxa2c,cxa3a,cxa3b,cxa3c,cxa4a,cxa4b,cxa4c,cg1a,cg1b,cg1c,cg2a,cg2b,cg2c,cg3a,cg3b,cg3c,cg4a,cg4b,cg4c,CD.dD,yk,ym]
  refine aq.val (by simp only[EO,aS.cF,cxa1d,cxa1c,cxa2d,cxa2c,cxa3d,cxa3c,cxa4d,cxa4c,cg1d,cg1c,cg2d,cg2c,cg3d,cg3c,cg4d,cg4c]) (Mx hΓ a oa t _) ?_
  simp only[EZ,ah,Nat.reduceAdd,Nat.reduceBEq,fv,cw,bo,gu,ER,bne_self_eq_false,beq_self_eq_true,decide_true,aS.c,cxa1a,cxa1b,cxa1c,cxa2a,cxa2b,cxa2c,cxa3a,cxa3b,cxa3c,cxa4a,cxa4b,cxa4c,cg1a,cg1b,cg1c,cg2a,cg2b,cg2c,cg3a,cg3b,cg3c,cg4a,cg4b,cg4c,CD.dD,yk,ym]
  refine aq.val (by simp only[EO,aS.cF,cxa1d,cxa1c,cxa2d,cxa2c,cxa3d,cxa3c,cxa4d,cxa4c,cg1d,cg1c,cg2d,cg2c,cg3d,cg3c,cg4d,cg4c]) (zR false false (dK a t) (dK a t) (rok.mono (by omega)) _) ?_
  simp only[EZ,ah,Nat.reduceAdd,Nat.reduceBEq,fv,cw,bo,gu,ER,bne_self_eq_false,beq_self_eq_true,decide_true,aS.c,cxa1a,cxa1b,cxa1c,cxa2a,cxa2b,cxa2c,cxa3a,cxa3b,cxa3c,cxa4a,cxa4b,cxa4c,cg1a,cg1b,cg1c,cg2a,cg2b,cg2c,cg3a,cg3b,cg3c,cg4a,cg4b,cg4c,CD.dD,yk,ym]
  refine aq.jE (by simp only[EO,aS.cF,cxa1d,cxa1c,cxa2d,cxa2c,cxa3d,cxa3c,cxa4d,cxa4c,cg1d,cg1c,cg2d,cg2c,cg3d,cg3c,cg4d,cg4c]) (bY (aV.jE (aS.cr true _) o_g) (bY (.same _) dR)) (fun h=>GI true (dK a t) 1 (by omega) (by omega) (rok.mono (by omega)) h) (.int _ _) ?_
  simp only[EZ,ah,Nat.reduceAdd,Nat.reduceBEq,fv,cw,bo,gu,ER,bne_self_eq_false,beq_self_eq_true,decide_true,aS.c,cxa1a,cxa1b,cxa1c,cxa2a,cxa2b,cxa2c,cxa3a,cxa3b,cxa3c,cxa4a,cxa4b,cxa4c,cg1a,cg1b,cg1c,cg2a,cg2b,cg2c,cg3a,cg3b,cg3c,cg4a,cg4b,cg4c,CD.dD,yk,ym]
  first|exact⟨rfl,xh.out⟩|exact xh.out|exact⟨rfl,rfl,xh.out⟩
end Go.Proofs.YtdlbaonelfcahaaGreatDoor
