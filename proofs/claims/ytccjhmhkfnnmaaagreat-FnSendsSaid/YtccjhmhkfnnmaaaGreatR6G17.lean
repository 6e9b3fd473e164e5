import Derived.Test.YtccjhmhkfnnmaaaGreatR6G16
import Derived.Test.YtccjhmhkfnnmaaaGreatR6G15
import Derived.Test.YtccjhmhkfnnmaaaGreatAmG9
import Derived.Test.YtccjhmhkfnnmaaaGreatAmG10
import Derived.Test.YtccjhmhkfnnmaaaGreatCodeFnSends
set_option linter.unusedVariables false
set_option linter.unusedSimpArgs false
namespace Go.Proofs.YtccjhmhkfnnmaaaGreat
open Go.AM
variable {Γ:bY}
set_option maxHeartbeats 4000000 in
set_option maxRecDepth 100000 in
theorem Nh(β:Bool)(v:ar)(hv:v.ok 1048576)(x:aq)(hx:x.ok 1048576)(h:AH):T Tryz.prog Γ Fn.Dg [.agg (v.c β),.agg (x.c β)] h (aV h [.a (gm v x).cd,.c (.i .i64 (jL v))]):=by
  have LE:=di β 12 false v.entities (aq.c β)
  refine T.pT rfl ?_
  refine Nj (au aC aD [] _ _ _ ?_)
  unfold HA
  simp only[EZ,ag,Nat.reduceAdd,Nat.reduceBEq,zI,pq,pY,aE,aO,ER,ar.c,aq.c]
  refine al.ref (by simp only[EO]) (CT β v hv _) ?_
  rintro _ H1 fr
  replace fr:aV h _ _ _:=fr
  obtain⟨aw,fw,rfl,ow,nw,bw,ew⟩:=fr.a1
  obtain⟨wE,w2,wL,w4,fE,f2,fL,f4,rfl,rfl,oE,o2,oL,o4⟩:=qd ow
  obtain⟨a1,a2,a3,a4⟩:=oE.cell
  obtain⟨b1,b2,b3,b4⟩:=o2.cell
  obtain⟨c1,c2,c3,c4⟩:=oL.cell
  obtain⟨d1,d2,d3,d4⟩:=o4.cell
  by_cases hf:200≤v.entities.length
  · have e:gm v x=v:=by rw[gm,if_pos hf]
    have e2:jL v = -1:=by rw[jL,if_pos hf]
    simp only[EZ,ag,Nat.reduceAdd,Nat.reduceBEq,zI,pq,pY,aE,aO,ER,ar.c,aq.c,LE,a1,a2,a3,b1,b2,b3,c1,c2,c3,d1,d2,d3,show decide ((v.entities.length:Int)≥200)=true from decide_eq_true (by omega),show decide ((200:Int)≤(v.entities.length:Int))=true from decide_eq_true (by omega)]
    obtain⟨N,rfl⟩:=ew.out
    exact⟨by simp only[List.all_cons,List.all_nil,EO,a3,b3,c3,d3],_,N,_,by rw[e2,CD.gI],rfl,by rw[e];exact ow,nw,bw⟩
  simp only[EZ,ag,Nat.reduceAdd,Nat.reduceBEq,zI,pq,pY,aE,aO,ER,ar.c,aq.c,LE,a1,a2,a3,b1,b2,b3,c1,c2,c3,d1,d2,d3,show decide ((v.entities.length:Int)≥200)=false from decide_eq_false (by omega),show decide ((200:Int)≤(v.entities.length:Int))=false from decide_eq_false (by omega)]
  refine al.ref (by simp only[EO]) (GA β x hx _) ?_
  rintro _ H2 fr
  replace fr:aV H1 _ _ _:=fr
  obtain⟨ax,fx,rfl,ox,nx,bx,ex⟩:=fr.a1
  have nE:fE.Nodup:=(List.nodup_append.1 nw).1
  have nd2:(fE++fx).Nodup:=List.nodup_append.2 ⟨nE,nx,fun c hc d hd e=>by have:=oE.lt c hc;have:=bx d hd;omega⟩
  obtain⟨v',H3,fE',ea,o',nd',hf',hl',hm'⟩:=cY (bytes:=144) (oE.ext ex) nd2 (by omega) (by rw[ox.len];rfl) ox (by simp only[List.length_map,aQ];omega)
  obtain⟨j1,j2,j3,j4⟩:=o'.cell
  refine⟨eu rfl,?_⟩
  obtain⟨wS,wQ,wA,fS,fQ,fA,rfl,_,oS,oQ,oA⟩:=cX ox
  obtain⟨x1,x2,x3,x4⟩:=oS.cell
  obtain⟨x5,x6,x7,x8⟩:=oQ.cell
  obtain⟨x9,xa,xb,xc⟩:=oA.cell
  simp only[EZ,ag,Nat.reduceAdd,Nat.reduceBEq,zI,pq,pY,EA,aE,aO,ER,ar.c,aq.c,LE,a1,a2,a3,b1,b2,b3,c1,c2,c3,d1,d2,d3,x1,x2,x3,x5,x6,x7,x9,xa,xb,ea,j1,j2,j3]
  refine⟨fun r hr=>?_,?_⟩
  · have:r=22:=by simpa using hr
    subst this
    exact fun n cs hc=>hc
  have hEx:=ex.len
  have hEw:=ew.len
  obtain⟨nE',nR,dER⟩:=List.nodup_append.1 nw
  have ltw:=fun c hc=>ow.lt c hc
  have oth:∀c∈f2++(fL++f4),H3[c]? = H1[c]?:=fun c hc=>by
    have hl:=ltw c (List.mem_append_right _ hc)
    rw[hf' c (fun h=>dER c h c hc rfl) (by omega),ex.fr c hl]
  have e:gm v x={ v with entities:=v.entities++[x] }:=by rw[gm,if_neg hf]
  have e2:jL v=(v.entities.length:Int):=by rw[jL,if_neg hf]
  have own:aG H3 [.int .i64 v.id,v',w2,wL,w4] (gm v x).cd (fE'++(f2++(fL++f4))):=by
    rw[e]
    have:=aG.i (k:=.i64) (n:=v.id) (aG.o (by simpa using o':b6 H3 v' (.sl 12 ((v.entities++[x]).map aq.cd)) fE') (aG.o (o2.frame fun c hc=>oth c (by simp[hc])) (aG.o (oL.frame fun c hc=>oth c (by simp[hc])) (aG.o (o4.frame fun c hc=>oth c (by simp[hc])) (.nil)))))
    simpa[ar.cd]using this
  have ex3:cn h H3:=⟨by omega,fun c hc=>by
    rw[hf' c (fun g=>by have:=bw c (List.mem_append_left _ g);omega) (by omega),ex.fr c (by omega),ew.fr c hc]⟩
  obtain⟨N,hN⟩:=ex3.out
  have ss:∀c∈fE'++(f2++(fL++f4)),h.length≤c:=fun c hc=>by
    rcases List.mem_append.1 hc with g|g
    · rcases hm' c g with q|q|q
      · exact bw c (List.mem_append_left _ q)
      · have:=bx c q;omega
      · omega
    · exact bw c (List.mem_append_right _ g)
  have ndd:(fE'++(f2++(fL++f4))).Nodup:=List.nodup_append.2 ⟨nd',nR,fun c hc d hd e=>by
    subst e
    have hl:=ltw c (List.mem_append_right _ hd)
    rcases hm' c hc with q|q|q
    · exact dER c q c hd rfl
    · have:=bx c q;omega
    · omega⟩
  first|exact⟨by simp only[List.all_cons,List.all_nil,EO,j3,j4,b3,b4,c3,c4,d3,d4],_,N,_,by rw[e2,CD.gI],hN,own,ndd,ss⟩|exact⟨_,N,_,by rw[e2,CD.gI],hN,own,ndd,ss⟩|trace_state
end Go.Proofs.YtccjhmhkfnnmaaaGreat
namespace Go.Proofs.YtccjhmhkfnnmaaaGreat
open Go.AM
variable {Γ:bY}
def aA(v:ar)(n:Int):aq:=v.entities.getD n.toNat default
def fP(v:ar)(k:Nat)(e:aq):ar:={ v with entities:=v.entities.set k e }
def oZ(v:ar)(k:Nat)(l:aB):ar:={ v with links:=v.links.set k l }
def FH(v:ar)(peer:Int):Nat:=(gE (fun l:aB=>l.peer == peer) v.links).toNat
def iJ(v:ar)(peer p:Int):ar:=oZ v (FH v peer) (g7 (v.links.getD (FH v peer) default) p).1
def oK(v:ar)(peer p:Int):Int:=(g7 (v.links.getD (FH v peer) default) p).2
def hS(r:aq)(peer q:Int):aq:={ r with state:=3,peer:=peer,pos:=q,count:=0,queue:=[] }
def gb(s:aM)(pos ans q:Int)(ws:List bW):bm:=⟨1,pos,ans,q,s.name,ws,⟨0,0⟩,0,s.tag⟩
def bV(v:ar)(s:aM)(peer:Int):ar:=(aL v peer s.args).1
def db(v:ar)(s:aM)(peer:Int):ar:=fP (iJ (bV v s peer) peer s.result) s.result.toNat (hS (aA v s.result) peer (oK (bV v s peer) peer s.result))
def dH(v:ar)(s:aM)(peer pos ans:Int):ar:=fF (db v s peer) peer (gb s pos ans (oK (bV v s peer) peer s.result) (aL v peer s.args).2)
def cQ(v:ar)(s:aM)(peer:Int):Bool:=su v.links peer && (cO s.result v.entities.length && (decide ((aA v s.result).kind=2) && decide ((aA v s.result).state=1)))
def fM(D:ar→aM→ar)(v:ar)(s:aM)(peer pos ans:Int):ar:=if cQ v s peer=true then (aA v s.result).queue.foldl D (dH v s peer pos ans)else v
def pk(v:ar)(p:Int)(x:ae):ae:=if (gw (cg v x) v.entities.length && !decide (cg v x=⟨1,p⟩))=true then cg v x else aR
def iV(e:aq)(y:ae):aq:={ e with state:=2,value:=y,queue:=[],askers:=[],peer:=0,pos:=0,count:=0 }
def sG(q:Int)(w:bW):bm:=⟨2,0,0,q,⟨#[]⟩,[],w,0,⟨0,0,0⟩⟩
def jI(e:aq)(a:cf):aq:={ e with askers:=e.askers++[a] }
def kz(e:aq)(s:aM):aq:={ e with queue:=e.queue++[s] }
def c7(y:ae)(v:ar)(a:cf):ar:=
  if gA v (cg v y)=true then fP v (cg v y).n.toNat (jI (aA v (cg v y).n) a)
  else fF (bJ v a.peer (cg v y)).1 a.peer (sG a.question (bJ v a.peer (cg v y)).2)
def jv(v:ar)(p:Int):Bool:=cO p v.entities.length && ju (aA v p)
def iF(v:ar)(p:Int)(x:ae):ar:=fP v p.toNat (iV (aA v p) (pk v p x))
def fZ(D:ar→aM→ar)(v:ar)(p:Int)(x:ae):ar:=
  if jv v p=true then (aA v p).askers.foldl (c7 (pk v p x)) ((aA v p).queue.foldl D (iF v p x))else v
def iq(v:ar)(s:aM):ae:=cg v ⟨1,s.target⟩
def iy(v:ar)(s:aM):aM:={ s with target:=(iq v s).n }
def eI(e:aq):aq:={ e with count:=IntKind.i64.wrap (e.count+1) }
def aT:Nat→ar→aM→ar
  | 0,v,_=>v
  | n+1,v,s=>
    if (decide ((iq v s).kind=1) && cO (iq v s).n v.entities.length)=true then
      (if (aA v (iq v s).n).kind=1 then (if v.loop.length<60 then { v with loop:=v.loop++[iy v s] }else fZ (aT n) v s.result aR)
      else if (aA v (iq v s).n).kind=3 then
        (if cQ v (iy v s) (aA v (iq v s).n).peer=true then fM (aT n) v (iy v s) (aA v (iq v s).n).peer (aA v (iq v s).n).pos 0 else fZ (aT n) v s.result aR)
      else if (aA v (iq v s).n).kind=2 then
        (if (aA v (iq v s).n).state=3 then
          (if cQ v (iy v s) (aA v (iq v s).n).peer=true then
            fP (fM (aT n) v (iy v s) (aA v (iq v s).n).peer 0 (aA v (iq v s).n).pos) (iq v s).n.toNat (eI (aA (fM (aT n) v (iy v s) (aA v (iq v s).n).peer 0 (aA v (iq v s).n).pos) (iq v s).n))
          else fZ (aT n) v s.result aR)
        else if (aA v (iq v s).n).state=2 then fZ (aT n) v s.result aR
        else (if (aA v (iq v s).n).queue.length<40 then fP v (iq v s).n.toNat (kz (aA v (iq v s).n) (iy v s))else fZ (aT n) v s.result aR))
      else fZ (aT n) v s.result aR)
    else fZ (aT n) v s.result aR
def rX(l:List aM):Nat:=(l.map fun s=>2+s.args.length).sum
def oO(e:aq):Nat:=rX e.queue+2*e.askers.length
def yr(l:aB):Nat:=l.exports.length+l.questions.length
def wV(v:ar):Nat:=(v.entities.map oO).sum+v.out.length+(v.links.map yr).sum
def zd(e:aq):Nat:=if e.kind=2 then (if e.state=1 then 2 else if e.state=3∨e.state=4 then 1 else 0)else 0
def je(v:ar):Nat:=(v.entities.map zd).sum
theorem po{α:Type}(g:α→Nat):∀(l:List α) (k:Nat) (x:α) (h:k<l.length),((l.set k x).map g).sum+g l[k]=(l.map g).sum+g x
  | a::l,0,x,h=>by simp;omega
  | a::l,k+1,x,h=>by
    have:=po g l k x (by simpa using h)
    simp only[List.set_cons_succ,List.map_cons,List.sum_cons,List.getElem_cons_succ];omega
theorem yA{α:Type}(g:α→Nat):∀(l:List α) (k:Nat) (h:k<l.length),g l[k]≤(l.map g).sum
  | a::l,0,h=>by simp
  | a::l,k+1,h=>by
    have:=yA g l k (by simpa using h)
    simp only[List.map_cons,List.sum_cons,List.getElem_cons_succ];omega
structure VI (v:ar):Prop where
  ents:v.entities.length≤200
  loop:v.loop.length≤60
  links:v.links.length≤100
  ans:∀l∈v.links,l.answers.length≤100
  en:∀e∈v.entities,e.slots.length≤100∧∀s∈e.queue,s.ok 100
  lps:∀s∈v.loop,s.ok 100
  outs:∀o∈v.out,o.ok 100
theorem Li{v:ar}{l:aB}(h:l∈v.links):yr l≤wV v:=by
  obtain⟨k,hk,rfl⟩:=List.getElem_of_mem h
  have:=yA yr v.links k hk
  unfold wV;omega
theorem Dn{v:ar}{e:aq}(h:e∈v.entities):oO e≤wV v:=by
  obtain⟨k,hk,rfl⟩:=List.getElem_of_mem h
  have:=yA oO v.entities k hk
  unfold wV;omega
theorem yQ(l:List aM):2*l.length≤rX l:=by
  induction l with
  | nil=>simp[rX]
  | cons a l ih=>simp only[rX,List.map_cons,List.sum_cons,List.length_cons]at *;omega
theorem VI.FR{v:ar}(h:VI v):BV (wV v+100) v:=fun l hl=>by
  have h1:=Li hl
  have h2:=h.ans l hl
  unfold yr at h1
  exact⟨by omega,by omega,by omega⟩
theorem VI.Lz{v:ar}(h:VI v):v.ok (wV v+200):=by
  refine⟨by have:=h.ents;omega,fun e he=>?_,by have:=h.loop;omega,fun s hs=>(h.lps s hs).mono (by omega),by have:=h.links;omega,fun l hl=>(h.FR l hl).mono (by omega),by unfold wV;omega,fun o ho=>(h.outs o ho).mono (by omega)⟩
  have h1:=Dn he
  have h2:=yQ e.queue
  have h3:=h.en e he
  unfold oO at h1
  exact⟨by omega,by omega,fun s hs=>(h3.2 s hs).mono (by omega),by omega⟩
theorem cm{v:ar}{n:Int}(h:cO n v.entities.length=true):∃k:Nat,∃hk:k<v.entities.length,n=(k:Int)∧n.toNat=k∧aA v n=v.entities[k]:=by
  simp only[cO,Bool.and_eq_true,decide_eq_true_eq]at h
  have hk:n.toNat<v.entities.length:=by omega
  exact⟨n.toNat,hk,by omega,rfl,by simp[aA,List.getD_eq_getElem?_getD,hk]⟩
theorem qn{v:ar}{n:Int}(h:cO n v.entities.length=true)(e:aq):wV (fP v n.toNat e)+oO (aA v n)=wV v+oO e:=by
  obtain⟨k,hk,_,e2,e3⟩:=cm h
  have:=po oO v.entities k e hk
  rw[e2,e3];simp only[wV,fP];omega
theorem pO{v:ar}{n:Int}(h:cO n v.entities.length=true)(e:aq):je (fP v n.toNat e)+zd (aA v n)=je v+zd e:=by
  obtain⟨k,hk,_,e2,e3⟩:=cm h
  have:=po zd v.entities k e hk
  rw[e2,e3];simp only[je,fP];omega
theorem eP(v:ar)(k:Nat)(e:aq):(fP v k e).entities.length=v.entities.length:=by simp[fP]
theorem j8{v:ar}(h:VI v)(k:Nat)(e:aq)(he:e.slots.length≤100∧∀s∈e.queue,s.ok 100):VI (fP v k e):=
  ⟨by rw[eP];exact h.ents,h.loop,h.links,h.ans,fun x hx=>by
    rcases List.mem_or_eq_of_mem_set hx with g|g
    · exact h.en x g
    · rw[g];exact he,h.lps,h.outs⟩
theorem gj{v:ar}(h:VI v)(n:Int):(aA v n).slots.length≤100∧∀s∈(aA v n).queue,s.ok 100:=by
  unfold aA
  rw[List.getD_eq_getElem?_getD]
  cases hk:v.entities[n.toNat]? with
  | some e=>exact h.en e (List.mem_of_getElem? hk)
  | none=>exact⟨Nat.zero_le _,fun s hs=>by cases hs⟩
structure ll (v v':ar):Prop where
  ents:v'.entities=v.entities
  loop:v'.loop=v.loop
  id:v'.id=v.id
theorem ll.refl(v:ar):ll v v:=⟨rfl,rfl,rfl⟩
theorem ll.trans{a b c:ar}(h:ll a b)(k:ll b c):ll a c:=⟨k.ents.trans h.ents,k.loop.trans h.loop,k.id.trans h.id⟩
theorem ll.mu{v v':ar}(h:ll v v'):je v'=je v:=by rw[je,h.ents,je]
theorem Ar(l:aB)(e:Int):yr (eO l e).1≤yr l+1:=by
  obtain⟨h1,h2,_⟩:=nY l e
  unfold yr;rw[h2];omega
theorem sj{v:ar}(k:Nat)(l:aB){c:Nat}(hl:yr l≤yr (v.links.getD k default)+c):wV (oZ v k l)≤wV v+c:=by
  by_cases hk:k<v.links.length
  · have:=po yr v.links k l hk
    rw[List.getD_eq_getElem?_getD,List.getElem?_eq_getElem hk,Option.getD_some]at hl
    simp only[wV,oZ];omega
  · simp only[wV,oZ];rw[List.set_eq_of_length_le (by omega)];omega
theorem zC{v:ar}(h:VI v)(k:Nat):(v.links.getD k default).answers.length≤100:=by
  rw[List.getD_eq_getElem?_getD]
  cases hk:v.links[k]? with
  | some l=>exact h.ans l (List.mem_of_getElem? hk)
  | none=>exact Nat.zero_le _
theorem pV{v:ar}(h:VI v)(k:Nat)(l:aB)(hl:l.answers.length≤100):VI (oZ v k l):=
  ⟨h.ents,h.loop,by simpa[oZ]using h.links,fun x hx=>by
    rcases List.mem_or_eq_of_mem_set hx with g|g
    · exact h.ans x g
    · rw[g];exact hl,h.en,h.lps,h.outs⟩
theorem kT(v:ar)(peer:Int)(x:ae):ll v (bJ v peer x).1∧wV (bJ v peer x).1≤wV v+1∧(bJ v peer x).1.out=v.out∧(VI v→VI (bJ v peer x).1):=by
  unfold bJ
  split
  · exact⟨.refl _,Nat.le_succ _,rfl,id⟩
  · split
    · split
      · exact⟨.refl _,Nat.le_succ _,rfl,id⟩
      · refine⟨⟨rfl,rfl,rfl⟩,sj (v:=v) _ _ (Ar _ _),rfl,fun h=>pV h _ _ ?_⟩
        rw[(nY _ _).2.2]
        exact zC h _
    · exact⟨.refl _,Nat.le_succ _,rfl,id⟩
theorem jN(peer:Int):∀(l:List ae) (v:ar),ll v (aL v peer l).1∧wV (aL v peer l).1≤wV v+l.length∧(aL v peer l).1.out=v.out∧(VI v→VI (aL v peer l).1)
  | [],v=>⟨.refl _,by simp[aL],rfl,id⟩
  | x::l,v=>by
    obtain⟨h1,h2,h3,h4⟩:=kT v peer x
    obtain⟨k1,k2,k3,k4⟩:=jN peer l (bJ v peer x).1
    simp only[aL,List.length_cons]
    exact⟨h1.trans k1,by omega,k3.trans h3,fun h=>k4 (h4 h)⟩
theorem jD(v:ar)(p:Int)(m:bm):ll v (fF v p m)∧wV (fF v p m)≤wV v+1∧(VI v→m.ok 100→VI (fF v p m)):=by
  unfold fF
  split
  · refine⟨⟨rfl,rfl,rfl⟩,by simp only[wV,List.length_append,List.length_cons,List.length_nil];omega,fun h hm=>⟨h.ents,h.loop,h.links,h.ans,h.en,h.lps,fun o ho=>?_⟩⟩
    rcases List.mem_append.1 ho with g|g
    · exact h.outs o g
    · rw[List.mem_singleton.1 g];exact hm
  · exact⟨.refl _,by omega,fun h _=>h⟩
theorem mD(v:ar)(peer p:Int):ll v (iJ v peer p)∧wV (iJ v peer p)≤wV v+1∧(VI v→VI (iJ v peer p)):=by
  refine⟨⟨rfl,rfl,rfl⟩,sj _ _ (by simp[yr,g7];omega),fun h=>pV h _ _ ?_⟩
  simp only[g7]
  exact zC h _
theorem ll.aA{v v':ar}(h:ll v v')(n:Int):aA v' n=aA v n:=by unfold Go.Proofs.YtccjhmhkfnnmaaaGreat.aA;rw[h.ents]
theorem oB(v:ar)(s:aM)(peer:Int):ll v (bV v s peer)∧wV (bV v s peer)≤wV v+s.args.length∧(VI v→VI (bV v s peer)):=
  let ⟨h1,h2,_,h4⟩:=jN peer s.args v
  ⟨h1,h2,h4⟩
theorem sK{v:ar}{s:aM}{peer:Int}(h:cQ v s peer=true):su v.links peer=true∧cO s.result v.entities.length=true∧(aA v s.result).kind=2∧(aA v s.result).state=1:=by
  simp only[cQ,Bool.and_eq_true,decide_eq_true_eq]at h
  exact⟨h.1,h.2.1,h.2.2.1,h.2.2.2⟩
theorem yH{v:ar}{s:aM}{peer pos ans:Int}(h:cQ v s peer=true):(dH v s peer pos ans).entities.length=v.entities.length∧wV (dH v s peer pos ans)+rX (aA v s.result).queue≤wV v+2+s.args.length∧je (dH v s peer pos ans)+1=je v∧(VI v→s.ok 100→VI (dH v s peer pos ans)):=by
  obtain⟨_,h2,h3,h4⟩:=sK h
  obtain⟨w1,w2,w3⟩:=oB v s peer
  obtain⟨a1,a2,a3⟩:=mD (bV v s peer) peer s.result
  have sm:=w1.trans a1
  have hl:cO s.result (iJ (bV v s peer) peer s.result).entities.length=true:=by rw[sm.ents];exact h2
  have e0:=sm.aA s.result
  have b1:=qn hl (hS (aA v s.result) peer (oK (bV v s peer) peer s.result))
  have b2:=pO hl (hS (aA v s.result) peer (oK (bV v s peer) peer s.result))
  rw[e0]at b1 b2
  have m1:zd (aA v s.result)=2:=by simp[zd,h3,h4]
  have m2:zd (hS (aA v s.result) peer (oK (bV v s peer) peer s.result))=1:=by simp[zd,hS,h3]
  have g1:oO (hS (aA v s.result) peer (oK (bV v s peer) peer s.result))+rX (aA v s.result).queue=oO (aA v s.result):=by simp[oO,hS,rX];omega
  obtain⟨p1,p2,p3⟩:=jD (db v s peer) peer (gb s pos ans (oK (bV v s peer) peer s.result) (aL v peer s.args).2)
  refine⟨?_,?_,?_,fun hv hs=>p3 ?_ ?_⟩
  · show(fF _ _ _).entities.length=_
    rw[p1.ents];unfold db;rw[eP,sm.ents]
  · show wV (fF _ _ _)+_≤_
    unfold db at p2 ⊢;omega
  · show je (fF _ _ _)+1=_
    rw[p1.mu];unfold db
    have:=sm.mu
    omega
  · unfold db
    exact j8 (a3 (w3 hv)) _ _ ⟨(gj hv s.result).1,fun x hx=>by simp[hS]at hx⟩
  · exact⟨hs.1,by rw[show(gb s pos ans (oK (bV v s peer) peer s.result) (aL v peer s.args).2).args=(aL v peer s.args).2 from rfl,jE];exact hs.2⟩
structure RK (D:ar→aM→ar):Prop where
  len:∀v s,(D v s).entities.length=v.entities.length
  w:∀v s,wV (D v s)≤wV v+2+s.args.length
  mu:∀v s,je (D v s)≤je v
  vi:∀v s,VI v→s.ok 100→VI (D v s)
theorem nC{D:ar→aM→ar}(h:RK D):∀(q:List aM) (v:ar),(q.foldl D v).entities.length=v.entities.length∧wV (q.foldl D v)≤wV v+rX q∧je (q.foldl D v)≤je v∧(VI v→(∀s∈q,s.ok 100)→VI (q.foldl D v))
  | [],v=>⟨rfl,by simp[rX],Nat.le_refl _,fun h _=>h⟩
  | s::q,v=>by
    obtain⟨k1,k2,k3,k4⟩:=nC h q (D v s)
    have h1:=h.len v s
    have h2:=h.w v s
    have h3:=h.mu v s
    simp only[List.foldl_cons]
    refine⟨k1.trans h1,by simp only[rX,List.map_cons,List.sum_cons]at *;omega,by omega,fun hv hq=>k4 (h.vi v s hv (hq s (by simp))) fun x hx=>hq x (by simp[hx])⟩
theorem BK{D:ar→aM→ar}(h:RK D)(v:ar)(s:aM)(peer pos ans:Int):(fM D v s peer pos ans).entities.length=v.entities.length∧wV (fM D v s peer pos ans)≤wV v+2+s.args.length∧je (fM D v s peer pos ans)≤je v∧(VI v→s.ok 100→VI (fM D v s peer pos ans)):=by
  unfold fM
  split
  · rename_i hc
    obtain⟨c1,c2,c3,c4⟩:=yH (pos:=pos) (ans:=ans) hc
    obtain⟨f1,f2,f3,f4⟩:=nC h (aA v s.result).queue (dH v s peer pos ans)
    exact⟨f1.trans c1,by omega,by omega,fun hv hs=>f4 (c4 hv hs) (gj hv _).2⟩
  · exact⟨rfl,by omega,Nat.le_refl _,fun hv _=>hv⟩
theorem Cl(y:ae)(v:ar)(a:cf):(c7 y v a).entities.length=v.entities.length∧wV (c7 y v a)≤wV v+2∧je (c7 y v a)≤je v∧(VI v→VI (c7 y v a)):=by
  unfold c7
  split
  · rename_i hp
    have hl:cO (cg v y).n v.entities.length=true:=by
      simp only[gA,Bool.and_eq_true]at hp;exact hp.2.1
    have b1:=qn hl (jI (aA v (cg v y).n) a)
    have b2:=pO hl (jI (aA v (cg v y).n) a)
    refine⟨eP _ _ _,?_,?_,fun hv=>j8 hv _ _ (gj hv _)⟩
    · have g:oO (jI (aA v (cg v y).n) a)=oO (aA v (cg v y).n)+2:=by simp only[oO,jI,List.length_append,List.length_cons,List.length_nil];omega
      omega
    · have g:zd (jI (aA v (cg v y).n) a)=zd (aA v (cg v y).n):=rfl
      omega
  · obtain⟨t1,t2,_,t4⟩:=kT v a.peer (cg v y)
    obtain⟨p1,p2,p3⟩:=jD (bJ v a.peer (cg v y)).1 a.peer (sG a.question (bJ v a.peer (cg v y)).2)
    have sm:=t1.trans p1
    exact⟨by rw[sm.ents],by omega,by rw[sm.mu];exact Nat.le_refl _,fun hv=>p3 (t4 hv) ⟨Nat.zero_le _,Nat.zero_le _⟩⟩
theorem qu(y:ae):∀(l:List cf) (v:ar),(l.foldl (c7 y) v).entities.length=v.entities.length∧wV (l.foldl (c7 y) v)≤wV v+2*l.length∧je (l.foldl (c7 y) v)≤je v∧(VI v→VI (l.foldl (c7 y) v))
  | [],v=>⟨rfl,by simp,Nat.le_refl _,id⟩
  | a::l,v=>by
    obtain⟨k1,k2,k3,k4⟩:=qu y l (c7 y v a)
    obtain⟨h1,h2,h3,h4⟩:=Cl y v a
    simp only[List.foldl_cons,List.length_cons]
    exact⟨k1.trans h1,by omega,by omega,fun hv=>k4 (h4 hv)⟩
theorem DO{v:ar}{p:Int}(h:jv v p=true)(x:ae):(iF v p x).entities.length=v.entities.length∧wV (iF v p x)+oO (aA v p)=wV v∧je (iF v p x)+1≤je v∧(VI v→VI (iF v p x)):=by
  simp only[jv,Bool.and_eq_true]at h
  have b1:=qn h.1 (iV (aA v p) (pk v p x))
  have b2:=pO h.1 (iV (aA v p) (pk v p x))
  have m1:zd (iV (aA v p) (pk v p x))=0:=by simp[zd,iV]
  have m2:1≤zd (aA v p):=by
    have hp:=h.2
    simp only[ju,Bool.and_eq_true,Bool.or_eq_true,decide_eq_true_eq]at hp
    unfold zd
    rw[if_pos hp.1]
    rcases hp.2 with g|g|g
    · rw[if_pos g];omega
    · rw[if_neg (by omega),if_pos (.inl g)];omega
    · rw[if_neg (by omega),if_pos (.inr g)];omega
  have g1:oO (iV (aA v p) (pk v p x))=0:=by simp[oO,iV,rX]
  refine⟨eP _ _ _,?_,?_,fun hv=>j8 hv _ _ ⟨(gj hv p).1,fun s hs=>by simp[iV]at hs⟩⟩
  · unfold iF;omega
  · unfold iF;omega
theorem D8{D:ar→aM→ar}(h:RK D)(v:ar)(p:Int)(x:ae):(fZ D v p x).entities.length=v.entities.length∧wV (fZ D v p x)≤wV v∧je (fZ D v p x)≤je v∧(VI v→VI (fZ D v p x)):=by
  unfold fZ
  split
  · rename_i hr
    obtain⟨k1,k2,k3,k4⟩:=DO hr x
    obtain⟨f1,f2,f3,f4⟩:=nC h (aA v p).queue (iF v p x)
    obtain⟨a1,a2,a3,a4⟩:=qu (pk v p x) (aA v p).askers ((aA v p).queue.foldl D (iF v p x))
    refine⟨a1.trans (f1.trans k1),?_,by omega,fun hv=>a4 (f4 (k4 hv) (gj hv p).2)⟩
    unfold oO at k2;omega
  · exact⟨rfl,by omega,Nat.le_refl _,id⟩
theorem jJ:∀n,RK (aT n)
  | 0=>⟨fun _ _=>rfl,fun _ _=>by simp only[aT];omega,fun _ _=>Nat.le_refl _,fun _ _ h _=>h⟩
  | n+1=>by
    have h:=jJ n
    have all:∀v s,(aT (n+1) v s).entities.length=v.entities.length∧wV (aT (n+1) v s)≤wV v+2+s.args.length∧je (aT (n+1) v s)≤je v∧(VI v→s.ok 100→VI (aT (n+1) v s)):=by
      intro v s
      have fail:(fZ (aT n) v s.result aR).entities.length=v.entities.length∧wV (fZ (aT n) v s.result aR)≤wV v+2+s.args.length∧je (fZ (aT n) v s.result aR)≤je v∧(VI v→s.ok 100→VI (fZ (aT n) v s.result aR)):=by
        obtain⟨r1,r2,r3,r4⟩:=D8 h v s.result aR
        exact⟨r1,by omega,r3,fun hv _=>r4 hv⟩
      have call:=fun peer pos ans=>BK h v (iy v s) peer pos ans
      unfold aT
      split
      rotate_left
      · exact fail
      rename_i ht
      have hl:cO (iq v s).n v.entities.length=true:=by simp only[Bool.and_eq_true]at ht;exact ht.2
      split
      · split
        · refine⟨rfl,by simp only[wV];omega,Nat.le_refl _,fun hv hs=>⟨hv.ents,?_,hv.links,hv.ans,hv.en,fun x hx=>?_,hv.outs⟩⟩
          · simp only[List.length_append,List.length_cons,List.length_nil];omega
          · rcases List.mem_append.1 hx with g|g
            · exact hv.lps x g
            · rw[List.mem_singleton.1 g];exact hs
        · exact fail
      split
      · split
        · exact call _ _ _
        · exact fail
      split
      · split
        · split
          · obtain⟨c1,c2,c3,c4⟩:=call (aA v (iq v s).n).peer 0 (aA v (iq v s).n).pos
            generalize fM (aT n) v (iy v s) (aA v (iq v s).n).peer 0 (aA v (iq v s).n).pos=v' at c1 c2 c3 c4
            have hl':cO (iq v s).n v'.entities.length=true:=by rw[c1];exact hl
            have b1:=qn hl' (eI (aA v' (iq v s).n))
            have b2:=pO hl' (eI (aA v' (iq v s).n))
            have g1:oO (eI (aA v' (iq v s).n))=oO (aA v' (iq v s).n):=rfl
            have g2:zd (eI (aA v' (iq v s).n))=zd (aA v' (iq v s).n):=rfl
            have g3:(iy v s).args=s.args:=rfl
            rw[g3]at c2
            exact⟨(eP _ _ _).trans c1,by omega,by omega,fun hv hs=>j8 (c4 hv hs) _ _ (gj (c4 hv hs) _)⟩
          · exact fail
        split
        · exact fail
        split
        · have b1:=qn hl (kz (aA v (iq v s).n) (iy v s))
          have b2:=pO hl (kz (aA v (iq v s).n) (iy v s))
          refine⟨eP _ _ _,?_,?_,fun hv hs=>j8 hv _ _ ⟨(gj hv _).1,fun x hx=>?_⟩⟩
          · have g:oO (kz (aA v (iq v s).n) (iy v s))=oO (aA v (iq v s).n)+(2+s.args.length):=by simp only[oO,kz,rX,List.map_append,List.map_cons,List.map_nil,List.sum_append,List.sum_cons,List.sum_nil,iy];omega
            omega
          · have g:zd (kz (aA v (iq v s).n) (iy v s))=zd (aA v (iq v s).n):=rfl
            omega
          · rcases List.mem_append.1 hx with g|g
            · exact(gj hv _).2 x g
            · rw[List.mem_singleton.1 g];exact hs
        · exact fail
      · exact fail
    exact⟨fun v s=>(all v s).1,fun v s=>(all v s).2.1,fun v s=>(all v s).2.2.1,fun v s=>(all v s).2.2.2⟩
end Go.Proofs.YtccjhmhkfnnmaaaGreat
namespace Go.Proofs.YtccjhmhkfnnmaaaGreat
open Go.AM
def Eo:C:=.seq (.regD qD qf) (.seq (.reg [mV 100 0,mV 101 2,mV 102 3,mV 103 4,mV 104 15,mF 105 1 6,mL 106 1 105,mV 107 12,mF 108 4 6,mG 109 3 108,⟨(some 110),none,.build [.int .i64 0,.int .i64 0,.int .i64 0,.int .i64 0,.str ⟨#[]⟩,.nils,.int .i64 0,.int .i64 0,.int .i64 0,.int .i64 0,.int .i64 0,.int .i64 0] [(0,1,.c (.int .i64 1)),(1,1,.t 102),(2,1,.t 103),(3,1,.t 104),(4,1,.t 106),(5,1,.t 107),(9,3,.t 109)]⟩,mC 111 Fn.Lr [.t 100,.t 101,.t 110]]) (.seq (.seq (.reg [mK 17 0]) (.block 0 (.loop (.seq (.seq (.reg [mV 112 17,mV 113 16,mN 114 113,mB 115 .lss 112 114]) (.cond (.t 115) .skip (.exit 0))) (.seq (.block 1 (.reg [mV 118 0,mV 119 16,mV 120 17,mX 121 7 119 120,mG 122 7 121,mC 123 Fn.FV [.t 118,.t 122]])) (.reg [mV 116 17,mI 117 .add 116 1,mV 17 117])))))) (.seq (.reg [mT 10 true]) .ret)))
def DQ:C:=.seq (.regD qg rg) (.seq (.reg [mF 82 3 11,⟨none,none,.store 1 (.t 82) (.c (.int .i64 3))⟩]) (.seq (.reg [mV 83 2,mF 84 8 11,mS 1 84 83]) (.seq (.reg [mV 85 15,mF 86 9 11,mS 1 86 85]) (.seq (.reg [mF 87 10 11,⟨none,none,.store 1 (.t 87) (.c (.int .i64 0))⟩]) (.seq (.reg [mF 88 6 11,mL 89 1 88,mV 16 89]) (.seq (.reg [⟨(some 90),none,.bsl 7 0 [.int .i64 0,.str ⟨#[]⟩,.nils,.int .i64 0,.int .i64 0,.int .i64 0,.int .i64 0] []⟩,mF 91 6 11,mS 1 91 90]) (Eo)))))))
def DS:C:=.seq (.regD rn qx) (DQ)
def xH:C:=.seq (.regD rq qF) (.seq (.seq (.reg [mF 44 0 11,mL 45 1 44,mI 46 .neq 45 2,mV 47 46,⟨(some 48),(some (3,false)),.fld 3 (.t 11)⟩,⟨(some 49),(some (3,false)),.load 1 false (.t 48)⟩,⟨(some 50),(some (3,false)),.bin .neq (.num) (.t 49) (.c (.int .i64 1))⟩,⟨(some 51),none,.pick (.t 47) (.c (.bool true)) (.t 50)⟩]) (.cond (.t 51) (.seq (.reg [mT 10 false]) .ret) .skip)) (.seq (.reg [mV 52 0,mV 53 2,mF 54 2 6,mL 55 1 54,mC 56 Fn.Sb [.t 52,.t 53,.t 55],mV 12 56]) (.seq (.reg [mV 57 0,⟨(some 58),none,.nilchk (.t 57)⟩,mG 59 5 58,mV 60 2,mC 61 Fn.KD [.t 59,.t 60],mV 13 61]) (DS))))
def DN:C:=.seq (.reg [mA 6 1,mT 10 false]) (.seq (.seq (.regD qw qN) (.cond (.t 35) (.seq (.reg [mT 10 false]) .ret) .skip)) (xH))
theorem KZ:JD=DN:=rfl
def DX:C:=.seq (.regD nG ng) (.seq (.reg [mT 5 false]) (.seq (.seq (.regD od oc) (.cond (.t 27) (.seq (.regD nP nB) (.seq (.reg [mF 36 1 4,mL 37 1 36,mF 38 0 3,mS 1 38 37]) (.block 0 (.seq (.reg [mF 40 0 6,mL 41 1 40,mI 42 .eql 41 1,mV 39 42]) (.cond (.t 39) (.seq (.reg [mV 43 0,⟨(some 44),none,.nilchk (.t 43)⟩,mF 45 2 44,mL 46 1 45,mN 47 46,mI 48 .lss 47 60]) (.cond (.t 48) (.seq (.regD nZ nj) (.reg [mT 5 true])) .skip)) (.seq (.reg [mF 60 0 6,mL 61 1 60,mI 62 .eql 61 3,mV 59 62]) (.cond (.t 59) (.reg [mV 63 0,mG 64 7 3,mF 65 8 6,mL 66 1 65,mF 67 9 6,mL 68 1 67,mC 69 Fn.Kr [.t 63,.t 64,.t 66,.t 68,.c (.int .i64 0)],mV 5 69]) (.seq (.reg [mF 71 0 6,mL 72 1 71,mI 73 .eql 72 2,mV 74 73,⟨(some 75),(some (3,true)),.fld 3 (.t 6)⟩,⟨(some 76),(some (3,true)),.load 1 false (.t 75)⟩,⟨(some 77),(some (3,true)),.bin .eql (.num) (.t 76) (.c (.int .i64 3))⟩,⟨(some 78),none,.pick (.t 74) (.t 77) (.c (.bool false))⟩,mV 70 78]) (.cond (.t 70) (.seq (.reg [mV 79 0,mG 80 7 3,mF 81 8 6,mL 82 1 81,mF 83 9 6,mL 84 1 83,mC 85 Fn.Kr [.t 79,.t 80,.t 82,.c (.int .i64 0),.t 84],mV 5 85]) (.seq (.reg [mV 86 5]) (.cond (.t 86) (.regD nN oD) .skip))) (.seq (.reg [mF 106 0 6,mL 107 1 106,mI 108 .eql 107 2,mV 109 108,⟨(some 110),(some (3,true)),.fld 3 (.t 6)⟩,⟨(some 111),(some (3,true)),.load 1 false (.t 110)⟩,⟨(some 112),(some (3,true)),.bin .neq (.num) (.t 111) (.c (.int .i64 2))⟩,⟨(some 113),none,.pick (.t 109) (.t 112) (.c (.bool false))⟩,mV 105 113]) (.cond (.t 105) (.seq (.reg [mF 114 6 6,mL 115 1 114,mN 116 115,mI 117 .lss 116 40]) (.cond (.t 117) (.seq (.regD nU nH) (.reg [mT 5 true])) .skip)) .skip))))))))))) .skip)) (.seq (.reg [mV 131 5,mU 132 131]) (.cond (.t 132) (.regD ot nu) .skip))))
def CV:C:=.seq (.reg [mA 3 1]) (DX)
theorem Lm:HC=CV:=rfl
def Ep:C:=.seq (.regD nV oC) (.seq (.seq (.reg [mK 9 0]) (.block 0 (.loop (.seq (.seq (.reg [mV 78 9,mF 79 6 7,mL 80 1 79,mN 81 80,mB 82 .lss 78 81]) (.cond (.t 82) .skip (.exit 0))) (.seq (.block 1 (.reg [mV 85 0,mF 86 6 7,mL 87 1 86,mV 88 9,mX 89 7 87 88,mG 90 7 89,mC 91 Fn.FV [.t 85,.t 90]])) (.reg [mV 83 9,mI 84 .add 83 1,mV 9 84])))))) (.seq (.reg [mK 10 0]) (.block 2 (.loop (.seq (.seq (.reg [mV 92 10,mF 93 7 7,mL 94 1 93,mN 95 94,mB 96 .lss 92 95]) (.cond (.t 96) .skip (.exit 2))) (.seq (.block 3 (.seq (.regD nW oq) (.seq (.seq (.reg [mV 104 0,mG 105 2 11,mC 106 Fn.Qa [.t 104,.t 105]]) (.cond (.t 106) (.seq (.regD nt oJ) (.exit 3)) .skip)) (.seq (.regD kE og) (.regD oH nM))))) (.reg [mV 97 10,mI 98 .add 97 1,mV 10 98])))))))
def Ec:C:=.seq (.regD p9 qe) (.seq (.seq (.regD qQ qZ) (.cond (.t 51) (.reg [mC 52 Fn.F4 [],mS 2 6 52]) .skip)) (.seq (.reg [mV 53 0,⟨(some 54),none,.nilchk (.t 53)⟩,mF 55 1 54,mL 56 1 55,mV 57 1,mX 58 12 56 57,mG 59 12 58,⟨(some 7),none,.alloc [.int .i64 0,.int .i64 0,.nils,.int .i64 0,.int .i64 0,.int .i64 0,.nils,.nils,.int .i64 0,.int .i64 0,.int .i64 0,.int .i64 0]⟩,mS 12 7 59]) (.seq (.reg [mG 60 12 7,⟨(some 8),none,.alloc [.int .i64 0,.int .i64 0,.nils,.int .i64 0,.int .i64 0,.int .i64 0,.nils,.nils,.int .i64 0,.int .i64 0,.int .i64 0,.int .i64 0]⟩,mS 12 8 60]) (.seq (.reg [mF 61 3 8,⟨none,none,.store 1 (.t 61) (.c (.int .i64 2))⟩]) (.seq (.reg [mG 62 2 6,mF 63 4 8,mS 2 63 62]) (.seq (.reg [⟨(some 64),none,.bsl 7 0 [.int .i64 0,.str ⟨#[]⟩,.nils,.int .i64 0,.int .i64 0,.int .i64 0,.int .i64 0] []⟩,mF 65 6 8,mS 1 65 64]) (.seq (.reg [⟨(some 66),none,.bsl 2 0 [.int .i64 0,.int .i64 0] []⟩,mF 67 7 8,mS 1 67 66]) (.seq (.reg [mF 68 8 8,⟨none,none,.store 1 (.t 68) (.c (.int .i64 0))⟩]) (.seq (.reg [mF 69 9 8,⟨none,none,.store 1 (.t 69) (.c (.int .i64 0))⟩]) (.seq (.reg [mF 70 10 8,⟨none,none,.store 1 (.t 70) (.c (.int .i64 0))⟩]) (Ep)))))))))))
def Ff:C:=.seq (.reg [mA 5 2]) (.seq (.seq (.reg [mV 13 1,mV 14 0,⟨(some 15),none,.nilchk (.t 14)⟩,mF 16 1 15,mL 17 1 16,mN 18 17,mI 19 .sub 18 1,mC 20 Fn.lH [.t 13,.c (.int .i64 0),.t 19],mU 21 20,mV 22 21,⟨(some 23),(some (9,false)),.mov (.t 0)⟩,⟨(some 24),(some (9,false)),.nilchk (.t 23)⟩,⟨(some 25),(some (9,false)),.fld 1 (.t 24)⟩,⟨(some 26),(some (9,false)),.load 1 false (.t 25)⟩,⟨(some 27),(some (9,false)),.mov (.t 1)⟩,⟨(some 28),(some (9,false)),.idxs 12 (.t 26) (.t 27)⟩,⟨(some 29),(some (9,false)),.load 12 true (.t 28)⟩,⟨(some 30),(some (9,false)),.call (.c (.fn Fn.Lv [] [])) [.t 29]⟩,⟨(some 31),(some (9,false)),.un .not (.t 30)⟩,⟨(some 32),none,.pick (.t 22) (.c (.bool true)) (.t 31)⟩]) (.cond (.t 32) .ret .skip)) (Ec))
theorem Lh:G2=Ff:=rfl
end Go.Proofs.YtccjhmhkfnnmaaaGreat
namespace Go.Proofs.YtccjhmhkfnnmaaaGreat
open Go.AM
variable {Γ:bY}
theorem ig{H:AH}{row:List AV}{s:aM}{f:List Nat}(o:aG H row s.cd f):∃wa,row=[.int .i64 s.target,.str s.name,wa,.int .i64 s.result,.int .i64 s.tag.vat,.int .i64 s.tag.entity,.int .i64 s.tag.seq]∧b6 H wa (.sl 2 (s.args.map ae.cd)) f:=by
  simp only[aM.cd,fW,fN,gB,iH,iv]at o
  obtain⟨_,_,_,_,rfl,rfl,⟨rfl,rfl⟩,⟨_,_,_,_,rfl,rfl,⟨rfl,rfl⟩,⟨wa,_,fa,_,rfl,rfl,oa,⟨_,_,_,_,rfl,rfl,⟨rfl,rfl⟩,⟨_,_,_,_,rfl,rfl,⟨rfl,rfl⟩,⟨_,_,_,_,rfl,rfl,⟨rfl,rfl⟩,⟨_,_,_,_,rfl,rfl,⟨rfl,rfl⟩,⟨rfl,rfl⟩⟩⟩⟩⟩⟩⟩⟩:=o
  exact⟨wa,rfl,by simpa using oa⟩
theorem mP{H:AH}{s:aM}{wa:AV}{f:List Nat}(oa:b6 H wa (.sl 2 (s.args.map ae.cd)) f):aG H [.int .i64 s.target,.str s.name,wa,.int .i64 s.result,.int .i64 s.tag.vat,.int .i64 s.tag.entity,.int .i64 s.tag.seq] s.cd f:=by
  have e':f=f++[]:=by simp
  rw[e']
  exact .i (.s (.o oa (.i (.i (.i (.i .nil))))))
theorem Be(v:ar)(peer:Int)(x:ae):(bJ v peer x).1.links.map (fun l=>(l.peer,l.up))=v.links.map (fun l=>(l.peer,l.up)):=by
  unfold bJ
  split
  · rfl
  · split
    · split
      · rfl
      · rw[List.map_set]
        by_cases hk:(gE (fun l:aB=>l.peer == peer) v.links).toNat<v.links.length
        · rw[List.getD_eq_getElem?_getD,List.getElem?_eq_getElem hk,Option.getD_some]
          apply List.ext_getElem?
          intro i
          by_cases hi:(gE (fun l:aB=>l.peer == peer) v.links).toNat=i
          · subst hi
            rw[List.getElem?_set_self (by simpa using hk)]
            simp only[List.getElem?_map,List.getElem?_eq_getElem hk,Option.map_some,Option.some.injEq]
            unfold eO
            split<;>rfl
          · rw[List.getElem?_set_ne hi]
        · rw[List.set_eq_of_length_le (by simpa using hk)]
    · rfl
theorem kc(peer:Int):∀(l:List ae) (v:ar),(aL v peer l).1.links.map (fun l=>(l.peer,l.up))=v.links.map (fun l=>(l.peer,l.up))
  | [],v=>rfl
  | x::l,v=>by simp only[aL];rw[kc peer l,Be]
theorem A3{l l':List aB}(h:l'.map (fun l=>(l.peer,l.up))=l.map (fun l=>(l.peer,l.up)))(p:Int):su l' p=su l p:=by
  have e:∀l:List aB,su l p=(l.map (fun l=>(l.peer,l.up))).any (fun x=>x.1 == p && x.2):=fun l=>by rw[List.any_map];rfl
  rw[e,e,h]
def zy(Γ:bY)(n:Nat):Prop:=∀(v:ar) (s:aM) (H:AH) (b:Nat) (f:List Nat) (am:List AV) (fs:List Nat),je v<n→VI v→s.ok 100→wV v+2+s.args.length≤500000→kt H b v f→aG H am s.cd fs→fs.Nodup→(∀c∈fs,c∉f∧c≠b)→
  T Tryz.prog Γ Fn.FV [.gp b 0 0,.agg am] H fun r H'=>r=.tup []∧gg H b (fun c=>c∈f∨c∈fs) H' (aT n v s)
set_option maxHeartbeats 8000000 in
set_option maxRecDepth 100000 in
theorem Jm{n:Nat}(hD:zy Γ n)(v:ar)(s:aM)(peer pos ans:Int)(hmu:je v≤n)(hvi:VI v)(hs:s.ok 100)(hw:wV v+2+s.args.length≤500000)(H:AH){b:Nat}{f:List Nat}(a:kt H b v f){am:List AV}{fs:List Nat}(os:aG H am s.cd fs)(ns:fs.Nodup)(ds:∀c∈fs,c∉f∧c≠b):
    T Tryz.prog Γ Fn.Kr [.gp b 0 0,.agg am,.int .i64 peer,.int .i64 pos,.int .i64 ans] H fun r H'=>r=.bool (cQ v s peer)∧gg H b (fun c=>c∈f∨c∈fs) H' (fM (aT n) v s peer pos ans):=by
  obtain⟨wE,w2,wL,w4,fE,f2,fL,f4,rfl,o⟩:=a
  obtain⟨wa,rfl,oa⟩:=ig os
  have hE:v.entities.length≤1048576:=by have:=hvi.ents;omega
  have hL:v.links.length≤1048576:=by have:=hvi.links;omega
  have hb:=o.hb
  have blt:=o.blt
  have cb:∀(e:List AV) (L:List (List AV)) (off n:Nat),(St.mk e L H).cells (.gp b 0 off) n=sub [.int .i64 v.id,wE,w2,wL,w4] off n:=fun e L off n=>bp hb
  obtain⟨a1,a2,a3,a4⟩:=o.oE.cell
  obtain⟨b1,b2,b3,b4⟩:=o.o2.cell
  obtain⟨c1,c2,c3,c4⟩:=o.oL.cell
  obtain⟨d1,d2,d3,d4⟩:=o.o4.cell
  obtain⟨g1,g2,g3,g4⟩:=oa.cell
  obtain⟨_,lE⟩:=cP o.oE
  rw[List.length_map]at lE
  refine Rb (au aC aD [] _ _ _ ?_)
  rw[KZ]
  unfold DN
  cases u1:su v.links peer
  · have no:cQ v s peer=false:=by simp[cQ,u1]
    have nf:fM (aT n) v s peer pos ans=v:=by rw[fM,no];rfl
    rw[no,nf]
    simp only[EZ,ag,Nat.reduceAdd,Nat.reduceBEq,fJ,cw,cF,cG,cE,cq,aE,aO,ER,EF,cb,a1,a2,a3,b1,b2,b3,c1,c2,c3,d1,d2,d3,g1,g2,g3,lE]
    refine al.fV (by simp only[EO,a3,b3,c3,d3]) (aK (aG.fV (ar.cu true v) o.own) (aK (.same _) b8)) (fun h=>jW true v hL peer h) (.bool _) ?_
    rw[u1]
    simp only[EZ,ag,Nat.reduceAdd,Nat.reduceBEq,fJ,cw,cF,cG,cE,cq,aE,aO,ER,EF,cb,a1,a2,a3,b1,b2,b3,c1,c2,c3,d1,d2,d3,g1,g2,g3,lE]
    exact⟨rfl,gg.refl o.at fun c hc=>.inl hc⟩
  cases e1:cO s.result v.entities.length
  · have no:cQ v s peer=false:=by simp[cQ,e1]
    have nf:fM (aT n) v s peer pos ans=v:=by rw[fM,no];rfl
    rw[no,nf]
    simp only[EZ,ag,Nat.reduceAdd,Nat.reduceBEq,fJ,cw,cF,cG,cE,cq,aE,aO,ER,EF,cb,a1,a2,a3,b1,b2,b3,c1,c2,c3,d1,d2,d3,g1,g2,g3,lE,an,ah]
    refine al.fV (by simp only[EO,a3,b3,c3,d3]) (aK (aG.fV (ar.cu true v) o.own) (aK (.same _) b8)) (fun h=>jW true v hL peer h) (.bool _) ?_
    rw[u1]
    simp only[EZ,ag,Nat.reduceAdd,Nat.reduceBEq,fJ,cw,cF,cG,cE,cq,aE,aO,ER,EF,cb,a1,a2,a3,b1,b2,b3,c1,c2,c3,d1,d2,d3,g1,g2,g3,lE,an,ah]
    refine al.val (by simp only[EO]) (dW _ _ _ _) ?_
    rw[cZ _ hE,e1]
    simp only[EZ,ag,Nat.reduceAdd,Nat.reduceBEq,fJ,cw,cF,cG,cE,cq,aE,aO,ER,EF,cb,a1,a2,a3,b1,b2,b3,c1,c2,c3,d1,d2,d3,g1,g2,g3,lE,an,ah]
    exact⟨rfl,gg.refl o.at fun c hc=>.inl hc⟩
  obtain⟨k,hk,ek,ek2,eA⟩:=cm e1
  obtain⟨r,hr⟩:∃r,r=aA v s.result:=⟨_,rfl⟩
  rw[←hr]at eA
  obtain⟨bR,gR,nR,row,fR,iR,rR,lR,oR,nfR,sR,bmR,bnR,wrR⟩:=o.gG hk
  rw[←eA]at oR
  obtain⟨wS,wQ,wA,fS,fQ,fA,rfl,rfl,oS,oQ,oA⟩:=cX oR
  obtain⟨x1,x2,x3,x4⟩:=oS.cell
  obtain⟨x5,x6,x7,x8⟩:=oQ.cell
  obtain⟨x9,xa,xb,xc⟩:=oA.cell
  by_cases t1:r.kind=2∧r.state=1
  rotate_left
  · have no:cQ v s peer=false:=by
      rw[cQ,←hr]
      by_cases q1:r.kind=2
      · rw[decide_eq_false (fun h=>t1 ⟨q1,h⟩)];simp
      · rw[decide_eq_false q1];simp
    have nf:fM (aT n) v s peer pos ans=v:=by rw[fM,no];rfl
    rw[no,nf]
    by_cases q1:r.kind=2
    · have q2:¬r.state=1:=fun h=>t1 ⟨q1,h⟩
      simp only[EZ,ag,Nat.reduceAdd,Nat.reduceBEq,fJ,cw,cF,cG,cE,cq,aE,aO,ER,EF,cb,a1,a2,a3,b1,b2,b3,c1,c2,c3,d1,d2,d3,g1,g2,g3,lE,an,ah]
      refine al.fV (by simp only[EO,a3,b3,c3,d3]) (aK (aG.fV (ar.cu true v) o.own) (aK (.same _) b8)) (fun h=>jW true v hL peer h) (.bool _) ?_
      rw[u1]
      simp only[EZ,ag,Nat.reduceAdd,Nat.reduceBEq,fJ,cw,cF,cG,cE,cq,aE,aO,ER,EF,cb,a1,a2,a3,b1,b2,b3,c1,c2,c3,d1,d2,d3,g1,g2,g3,lE,an,ah]
      refine al.val (by simp only[EO]) (dW _ _ _ _) ?_
      rw[cZ _ hE,e1]
      simp only[EZ,ag,Nat.reduceAdd,Nat.reduceBEq,fJ,cw,cF,cG,cE,cq,aE,aO,ER,EF,cb,a1,a2,a3,b1,b2,b3,c1,c2,c3,d1,d2,d3,g1,g2,g3,lE,an,ah,ek,iR,rR,x1,x2,x3,x5,x6,x7,x9,xa,xb,decide_eq_true q1,decide_eq_false q2]
      unfold xH
      simp only[EZ,ag,Nat.reduceAdd,Nat.reduceBEq,fJ,cw,cF,cG,cE,cq,aE,aO,ER,EF,cb,a1,a2,a3,b1,b2,b3,c1,c2,c3,d1,d2,d3,g1,g2,g3,lE,an,ah,ek,iR,rR,x1,x2,x3,x5,x6,x7,x9,xa,xb,decide_eq_true q1,decide_eq_false q2]
      refine⟨Mem.loc ⟨_,([]:List (List AV))++[_],_⟩ _ [_],?_⟩
      first|exact⟨rfl,gg.refl o.at fun c hc=>.inl hc⟩|exact gg.refl o.at fun c hc=>.inl hc
    · simp only[EZ,ag,Nat.reduceAdd,Nat.reduceBEq,fJ,cw,cF,cG,cE,cq,aE,aO,ER,EF,cb,a1,a2,a3,b1,b2,b3,c1,c2,c3,d1,d2,d3,g1,g2,g3,lE,an,ah]
      refine al.fV (by simp only[EO,a3,b3,c3,d3]) (aK (aG.fV (ar.cu true v) o.own) (aK (.same _) b8)) (fun h=>jW true v hL peer h) (.bool _) ?_
      rw[u1]
      simp only[EZ,ag,Nat.reduceAdd,Nat.reduceBEq,fJ,cw,cF,cG,cE,cq,aE,aO,ER,EF,cb,a1,a2,a3,b1,b2,b3,c1,c2,c3,d1,d2,d3,g1,g2,g3,lE,an,ah]
      refine al.val (by simp only[EO]) (dW _ _ _ _) ?_
      rw[cZ _ hE,e1]
      simp only[EZ,ag,Nat.reduceAdd,Nat.reduceBEq,fJ,cw,cF,cG,cE,cq,aE,aO,ER,EF,cb,a1,a2,a3,b1,b2,b3,c1,c2,c3,d1,d2,d3,g1,g2,g3,lE,an,ah,ek,iR,rR,x1,x2,x3,x5,x6,x7,x9,xa,xb,decide_eq_false q1]
      unfold xH
      simp only[EZ,ag,Nat.reduceAdd,Nat.reduceBEq,fJ,cw,cF,cG,cE,cq,aE,aO,ER,EF,cb,a1,a2,a3,b1,b2,b3,c1,c2,c3,d1,d2,d3,g1,g2,g3,lE,an,ah,ek,iR,rR,x1,x2,x3,x5,x6,x7,x9,xa,xb,decide_eq_false q1]
      refine⟨Mem.loc ⟨_,([]:List (List AV))++[_],_⟩ _ [_],?_⟩
      first|exact⟨rfl,gg.refl o.at fun c hc=>.inl hc⟩|exact gg.refl o.at fun c hc=>.inl hc
  obtain⟨q1,q2⟩:=t1
  simp only[EZ,ag,Nat.reduceAdd,Nat.reduceBEq,fJ,cw,cF,cG,cE,cq,aE,aO,ER,EF,cb,a1,a2,a3,b1,b2,b3,c1,c2,c3,d1,d2,d3,g1,g2,g3,lE,an,ah]
  refine al.fV (by simp only[EO,a3,b3,c3,d3]) (aK (aG.fV (ar.cu true v) o.own) (aK (.same _) b8)) (fun h=>jW true v hL peer h) (.bool _) ?_
  rw[u1]
  simp only[EZ,ag,Nat.reduceAdd,Nat.reduceBEq,fJ,cw,cF,cG,cE,cq,aE,aO,ER,EF,cb,a1,a2,a3,b1,b2,b3,c1,c2,c3,d1,d2,d3,g1,g2,g3,lE,an,ah]
  refine al.val (by simp only[EO]) (dW _ _ _ _) ?_
  rw[cZ _ hE,e1]
  simp only[EZ,ag,Nat.reduceAdd,Nat.reduceBEq,fJ,cw,cF,cG,cE,cq,aE,aO,ER,EF,cb,a1,a2,a3,b1,b2,b3,c1,c2,c3,d1,d2,d3,g1,g2,g3,lE,an,ah,ek,iR,rR,x1,x2,x3,x5,x6,x7,x9,xa,xb,decide_eq_true q1,decide_eq_true q2]
  unfold xH
  simp only[EZ,ag,Nat.reduceAdd,Nat.reduceBEq,fJ,cw,cF,cG,cE,cq,aE,aO,ER,EF,cb,a1,a2,a3,b1,b2,b3,c1,c2,c3,d1,d2,d3,g1,g2,g3,lE,an,ah,ek,iR,rR,x1,x2,x3,x5,x6,x7,x9,xa,xb,decide_eq_true q1,decide_eq_true q2]
  refine⟨Mem.loc ⟨_,([]:List (List AV))++[_],_⟩ _ [_],?_⟩
  have yes:cQ v s peer=true:=by rw[cQ,u1,e1,←hr,decide_eq_true q1,decide_eq_true q2];rfl
  have yf:fM (aT n) v s peer pos ans=r.queue.foldl (aT n) (dH v s peer pos ans):=by rw[fM,if_pos yes,←hr]
  obtain⟨w1s,w1w,w1i⟩:=oB v s peer
  refine al.ref (by simp only[EO,g3,g4]) (NK v hE hL hvi.FR peer s.args (by omega) H o oa ns (fun c hc h=>(ds c hc).1 (aN.2 (.inr (.inr (.inl h)))))) ?_
  rintro ww H1 ⟨fL1,fw,o1,ow,nw,l1,m1,mw,r1⟩
  replace o1:VO H1 b (bV v s peer) wE w2 wL w4 fE f2 fL1 f4:=o1
  replace ow:b6 H1 ww _ fw:=ow
  replace l1:H.length≤H1.length:=l1
  replace mw:∀c∈fw,H.length≤c∧c∉fL1:=mw
  replace r1:∀c,c∉fL→c<H.length→H1[c]? = H[c]?:=r1
  replace m1:∀c∈fL1,c∈fL∨H.length≤c:=m1
  obtain⟨h1,h2,h3,h4⟩:=ow.cell
  have hb1:=o1.hb
  have cb1:∀(e:List AV) (L:List (List AV)) (off n:Nat),(St.mk e L H1).cells (.gp b 0 off) n=sub [.int .i64 v.id,wE,w2,wL,w4] off n:=fun e L off n=>by rw[bp hb1,w1s.id]
  simp only[EZ,ag,Nat.reduceAdd,Nat.reduceBEq,fJ,cw,cF,cG,cE,cq,aE,aO,ER,EF,cb1,a1,a2,a3,b1,b2,b3,c1,c2,c3,d1,d2,d3,h1,h2,h3]
  have pu:=kc peer s.args v
  have u2:su (bV v s peer).links peer=true:=by rw[bV,A3 pu];exact u1
  have hL1:(bV v s peer).links.length≤1048576:=by rw[bV,(hM peer s.args v).2];exact hL
  obtain⟨j,hj,ej,_⟩:=AW u2
  have ow1:=o1.own
  rw[w1s.id]at ow1
  refine al.fV (by simp only[EO,a3,b3,c3,d3]) (aK (aG.fV (ar.cu true (bV v s peer)) (by have:=o1.own;rw[w1s.id]at this;exact this)) (aK (.same _) b8)) (fun h=>E6 true (bV v s peer) hL1 peer h) (.int _ _) ?_
  rw[ej]
  have lj:FH (bV v s peer) peer=j:=by rw[FH,ej];rfl
  obtain⟨l,hl⟩:∃l,l=(bV v s peer).links[j]:=⟨_,rfl⟩
  have hgl:(bV v s peer).links.getD j default=l:=by rw[List.getD_eq_getElem?_getD,List.getElem?_eq_getElem hj,hl];rfl
  have olk:l.ok 1048576:=by rw[hl];exact((w1i hvi).FR _ (List.getElem_mem hj)).mono (by omega)
  obtain⟨bL,gL,nL,rowL,fl0,iL,rL,oLr,nLr,sLr,wrL⟩:=o1.pw hj
  rw[←hl]at oLr
  obtain⟨wX,wQ',wA',fX,fq,fa,rfl,_,oX,oQq,oAa⟩:=dT oLr
  obtain⟨y1,y2,y3,y4⟩:=oX.cell
  obtain⟨y5,y6,y7,y8⟩:=oQq.cell
  obtain⟨y9,ya,yb,yc⟩:=oAa.cell
  simp only[EZ,ag,Nat.reduceAdd,Nat.reduceBEq,fJ,cw,cF,cG,cE,cq,aE,aO,ER,EF,cb1,a1,a2,a3,b1,b2,b3,c1,c2,c3,d1,d2,d3,h1,h2,h3,iL,rL,y1,y2,y3,y5,y6,y7,y9,ya,yb,ek]
  unfold DS
  obtain⟨R2,hR2⟩:∃R:St→Prop,R=fun zst=>∃H4 row' f',∃g:Nat→AV,zst=⟨(List.range 124).map g,([]:List (List AV))++[[.int .i64 s.target,.str s.name,wa,.int .i64 k,.int .i64 s.tag.vat,.int .i64 s.tag.entity,.int .i64 s.tag.seq]]++[[.int .i64 r.kind,.int .i64 r.script,wS,.int .i64 r.state,.int .i64 r.value.kind,.int .i64 r.value.n,wQ,wA,.int .i64 r.peer,.int .i64 r.pos,.int .i64 r.count,.int .i64 r.sent]]++[row'],H4⟩∧(g 0=.gp b 0 0∧g 2=.int .i64 peer∧g 3=.int .i64 pos∧g 4=.int .i64 ans∧g 6=(.lp ([]:List (List AV)).length 0)∧g 11=(.lp (([]:List (List AV)).length+1) 0)∧g 12=ww∧g 13=.int .i64 j∧g 14=(.lp (([]:List (List AV)).length+2) 0)∧g 15=.int .i64 (g7 l k).2)∧aG H4 row' (g7 l k).1.cd f'∧f'.Nodup∧(∀c∈f',H1.length≤c)∧cn H1 H4:=⟨_,rfl⟩
  refine sL R2 ?_ ?_
  · simp only[EZ,ag,Nat.reduceAdd,Nat.reduceBEq,fJ,cw,cF,cG,cE,cq,aE,aO,ER,EF,cb1,a1,a2,a3,b1,b2,b3,c1,c2,c3,d1,d2,d3,h1,h2,h3,iL,rL,y1,y2,y3,y5,y6,y7,y9,ya,yb,ek,eE]
    repeat' (first
      | (guard_target =~ Mem _ _;first|exact Mem.loc ⟨_,([]:List (List AV))++[_]++[_],_⟩ _ [_]|exact eg.mem _ _ _)
      | (guard_target =~ eK _ _ _;first|exact eu rfl|exact fG (L':=[_]) rfl)
      | (guard_target =~ al _ _ Fn.Ls _ _ _
         refine al.own (by simp only[EO,y3,y7,yb]) (aK (aG.fV (aB.cu true l) oLr) (aK (.same _) b8)) (fun h=>Kw true l olk (k:Int) h) ?_
         rintro _ H4 fr
         replace fr:aV H1 _ _ _:=fr
         obtain⟨row',f',rfl,o',n',b',eg⟩:=fr.a2 rfl
         obtain⟨wX2,wQ2,wA2,_,_,_,rfl,_,oX2,oQ2,oA2⟩:=dT o'
         obtain⟨z1,z2,z3,z4⟩:=oX2.cell
         obtain⟨z5,z6,z7,z8⟩:=oQ2.cell
         obtain⟨z9,za,zb,zc⟩:=oA2.cell
         simp only[EZ,ag,Nat.reduceAdd,Nat.reduceBEq,fJ,cw,cF,cG,cE,cq,aE,aO,ER,EF,cb1,a1,a2,a3,b1,b2,b3,c1,c2,c3,d1,d2,d3,h1,h2,h3,iL,rL,y1,y2,y3,y5,y6,y7,y9,ya,yb,ek,CD.gI,z1,z2,z3,z5,z6,z7,z9,za,zb,eE])
      | (rw[hR2];exact⟨_,_,_,jq _,jM rfl,⟨rfl,rfl,rfl,rfl,rfl,rfl,rfl,rfl,rfl,rfl⟩,o',n',b',eg⟩)
      | refine And.intro ?_ ?_)
  intro zst hzst
  rw[hR2]at hzst
  clear hR2
  obtain⟨H4,row',f',g,rfl,⟨eg0,eg2,eg3,eg4,eg6,eg11,eg12,eg13,eg14,eg15⟩,o',n',b',eg⟩:=hzst
  rw[show(List.range 124).map g=g 0::g 1::g 2::g 3::g 4::g 5::g 6::g 7::g 8::g 9::g 10::g 11::g 12::g 13::g 14::g 15::g 16::g 17::g 18::g 19::g 20::g 21::g 22::g 23::g 24::g 25::g 26::g 27::g 28::g 29::g 30::g 31::g 32::g 33::g 34::g 35::g 36::g 37::g 38::g 39::g 40::g 41::g 42::g 43::g 44::g 45::g 46::g 47::g 48::g 49::g 50::g 51::g 52::g 53::g 54::g 55::g 56::g 57::g 58::g 59::g 60::g 61::g 62::g 63::g 64::g 65::g 66::g 67::g 68::g 69::g 70::g 71::g 72::g 73::g 74::g 75::g 76::g 77::g 78::g 79::g 80::g 81::g 82::g 83::g 84::g 85::g 86::g 87::g 88::g 89::g 90::g 91::g 92::g 93::g 94::g 95::g 96::g 97::g 98::g 99::g 100::g 101::g 102::g 103::g 104::g 105::g 106::g 107::g 108::g 109::g 110::g 111::g 112::g 113::g 114::g 115::g 116::g 117::g 118::g 119::g 120::g 121::g 122::g 123::[] from rfl]
  simp only[eg0,eg2,eg3,eg4,eg6,eg11,eg12,eg13,eg14,eg15]
  obtain⟨H5,s5,l5,r5,u5⟩:=wrL H4 row' (g7 l k).1 f' eg o' n' (fun c hc=>.inr (b' c hc))
  obtain⟨wX2,wQ2,wA2,_,_,_,rfl,_,oX2,oQ2,oA2⟩:=dT o'
  obtain⟨z1,z2,z3,z4⟩:=oX2.cell
  obtain⟨z5,z6,z7,z8⟩:=oQ2.cell
  obtain⟨z9,za,zb,zc⟩:=oA2.cell
  have ev5:({ bV v s peer with links:=(bV v s peer).links.set j (g7 l k).1 }:ar)=iJ (bV v s peer) peer s.result:=by
    rw[iJ,lj,hgl,ek];rfl
  rw[ev5]at u5
  obtain⟨fL5,o5,l15,m5,r15⟩:=u5
  have eq5:oK (bV v s peer) peer s.result=(g7 l k).2:=by rw[oK,lj,hgl,ek]
  have blt1:=o1.blt
  have cb4:∀(e:List AV) (L:List (List AV)) (off n:Nat),(St.mk e L H4).cells (.gp b 0 off) n=sub [.int .i64 v.id,wE,w2,wL,w4] off n:=fun e L off n=>by rw[bp (by rw[bt (eg.fr b blt1)];exact hb1),w1s.id]
  have cb6:∀(e:List AV) (L:List (List AV)) (off n:Nat),(St.mk e L (H5++[some (0,[])])).cells (.gp b 0 off) n=sub [.int .i64 v.id,wE,w2,wL,w4] off n:=fun e L off n=>by
    have:=o5.hb
    rw[bp (by rw[bt (List.getElem?_append_left o5.blt)];exact this),(mD (bV v s peer) peer s.result).1.id,w1s.id]
  unfold DQ
  simp only[EZ,ag,Nat.reduceAdd,Nat.reduceBEq,fJ,cw,cF,cG,cE,cq,aE,aO,ER,EF,EA,cb4,a1,a2,a3,b1,b2,b3,c1,c2,c3,d1,d2,d3,h1,h2,h3,iL,z1,z2,z3,z5,z6,z7,z9,za,zb,s5,x1,x2,x3,x5,x6,x7,x9,xa,xb]
  unfold Eo
  obtain⟨H6,hH6⟩:∃H6,H6=H5++[some (0,([]:List AV))]:=⟨_,rfl⟩
  obtain⟨a1k,a1w,a1i⟩:=mD (bV v s peer) peer s.result
  have sm:=w1s.trans a1k
  have o6:VO H6 b (iJ (bV v s peer) peer s.result) wE w2 wL w4 fE f2 fL5 f4:=by rw[hH6];exact o5.frame fun c hc=>List.getElem?_append_left (by rcases hc with g|g;exact o5.lt c g;rw[g];exact o5.blt)
  have hk6:k<(iJ (bV v s peer) peer s.result).entities.length:=by rw[sm.ents];exact hk
  obtain⟨bR6,gR6,nR6,row6,fR6,iR6,rR6,lR6,oR6,nfR6,sR6,bmR6,bnR6,wrR6⟩:=o6.gG hk6
  rw[iR]at iR6
  injection iR6 with iR6
  injection iR6 with j1 j2 j3
  subst j1 j2 j3
  have vlt:=o.lt
  have hbR:bR<H.length:=vlt bR (aN.2 (.inl bmR))
  have fr1:∀c,c<H.length→c∉fL→H6[c]? = H[c]?:=fun c hc hn=>by
    have h5:c∉fL1:=fun h=>by rcases m1 c h with g|g;exact hn g;omega
    rw[hH6,List.getElem?_append_left (by have:=eg.len;omega),r15 c h5 (by omega),r1 c hn hc]
  have e6:row6=[.int .i64 r.kind,.int .i64 r.script,wS,.int .i64 r.state,.int .i64 r.value.kind,.int .i64 r.value.n,wQ,wA,.int .i64 r.peer,.int .i64 r.pos,.int .i64 r.count,.int .i64 r.sent]:=by
    have h1:=rR6 [] []
    have h2:=rR [] []
    rw[show(St.mk [] [] H6).cells (.gp bR gR nR) 12=(St.mk [] [] H).cells (.gp bR gR nR) 12 by simp only[St.cells];rw[bt (fr1 bR hbR (o.dEL bR bmR))]]at h1
    exact Option.some.inj (h1.symm.trans h2)
  have ent6:(iJ (bV v s peer) peer s.result).entities[k]=r:=by
    have:(iJ (bV v s peer) peer s.result).entities=v.entities:=sm.ents
    simp only[this];exact eA.symm
  rw[ent6]at oR6
  obtain⟨wS6,wQ6,wA6,fS6,fQ6,fA6,e7,rfl,oS6,oQ6,oA6⟩:=cX oR6
  rw[e6]at e7
  simp only[List.cons.injEq,AV.int.injEq,true_and,and_true]at e7
  obtain⟨rfl,rfl,rfl⟩:=e7
  subst e6
  have lt6:=o6.lt
  have l6:H6.length=H5.length+1:=by rw[hH6];simp
  have oN:b6 H6 (.gs H5.length 0 0 0 0 7 true) (.sl 7 (([]:List aM).map aM.cd)) [H5.length]:=by rw[hH6];exact dI H5 7
  obtain⟨nS6,nQA6,dS6⟩:=List.nodup_append.1 nfR6
  obtain⟨nQ6,nA6,dQ6⟩:=List.nodup_append.1 nQA6
  have lo6:∀c,c∈fS6++(fQ6++fA6)→c<H.length:=fun c hc=>vlt c (aN.2 (.inl (sR6 c hc)))
  have l15':=eg.len
  obtain⟨_,H7,f7,s7,l7,r7,o7,m7⟩:=wrR6 H6 0 [.int .i64 r.kind,.int .i64 r.script,wS,.int .i64 3,.int .i64 r.value.kind,.int .i64 r.value.n,.gs H5.length 0 0 0 0 7 true,wA,.int .i64 peer,.int .i64 (g7 l k).2,.int .i64 0,.int .i64 r.sent] (hS r peer (g7 l k).2) (fS6++([H5.length]++fA6)) [H5.length] (Nat.le_refl _) (fun c hc=>by
      rw[List.mem_singleton.1 hc];exact⟨fun h=>by have:=o5.lt _ h;omega,fun e=>by have:=o5.blt;omega⟩) (fun _ _ _ _=>rfl) (by simp)
    (by simp only[i5,iY,x3,xb];rfl)
    (by
      have:=hZ (e:=hS r peer (g7 l k).2) oS6 oN oA6
      exact this)
    (List.nodup_append.2 ⟨nS6,List.nodup_append.2 ⟨by simp,nA6,fun x hx y hy e=>by
      have:=lo6 y (by simp[hy]);simp only[List.mem_singleton]at hx;omega⟩,fun x hx y hy e=>by
      rcases List.mem_append.1 hy with g|g
      · have:=lo6 x (by simp[hx]);simp only[List.mem_singleton]at g;omega
      · exact dS6 x hx y (List.mem_append_right _ g) e⟩)
    (fun c hc=>by
      simp only[List.mem_append,List.mem_singleton]at hc
      rcases hc with g|g|g
      · exact .inl (by simp[g])
      · exact .inr (.inl (by simp[g]))
      · exact .inl (by simp[g]))
  rw[Nat.add_zero]at s7
  have ev7:({ iJ (bV v s peer) peer s.result with entities:=(iJ (bV v s peer) peer s.result).entities.set k (hS r peer (g7 l k).2) }:ar)=db v s peer:=by
    rw[db,eq5,←hr,ek2];rfl
  rw[ev7]at o7
  rw[←hH6]
  rw[←hH6]at cb6
  simp only[EZ,ag,Nat.reduceAdd,Nat.reduceBEq,fJ,cw,cF,cG,cE,cq,aE,aO,ER,EF,EA,cb6,a1,a2,a3,b1,b2,b3,c1,c2,c3,d1,d2,d3,h1,h2,h3,iR,x1,x2,x3,x5,x6,x7,x9,xa,xb,s7,g1,g2,g3]
  have avi:VI (db v s peer):=by rw[db];exact j8 (a1i (w1i hvi)) _ _ ⟨(gj hvi s.result).1,fun x hx=>by simp[hS]at hx⟩
  have aout:(db v s peer).out=v.out:=(jN peer s.args v).2.2.1
  have hout:v.out.length≤wV v:=by unfold wV;omega
  have nbR:∀c,H.length≤c→c≠bR:=fun c h e=>by omega
  have fw7:∀c∈fw,H7[c]? = H1[c]?:=fun c hc=>by
    have hl:=ow.lt c hc
    rw[r7 c (nbR c (mw c hc).1),hH6,List.getElem?_append_left (by omega),r15 c (mw c hc).2 hl]
  have ow7:b6 H7 ww (.sl 2 ((aL v peer s.args).2.map bW.cd)) fw:=ow.frame fw7
  have omsg:aG H7 [.int .i64 1,.int .i64 pos,.int .i64 ans,.int .i64 (g7 l k).2,.str s.name,ww,.int .i64 0,.int .i64 0,.int .i64 0,.int .i64 s.tag.vat,.int .i64 s.tag.entity,.int .i64 s.tag.seq] (gb s pos ans (g7 l k).2 (aL v peer s.args).2).cd fw:=by
    have e':fw=fw++[]:=by simp
    rw[e']
    exact .i (.i (.i (.i (.s (.o ow7 (.i (.i (.i (.i (.i (.i .nil)))))))))))
  have fwd:∀c∈fw,c∉f7∧c≠b:=fun c hc=>by
    obtain⟨k1,k2⟩:=mw c hc
    have hl:=ow.lt c hc
    refine⟨fun h=>?_,fun e=>by omega⟩
    rcases m7 c h with⟨g,_⟩|g
    · rcases aN.1 g with q|q|q|q
      · have:=vlt c (aN.2 (.inl q));omega
      · have:=vlt c (aN.2 (.inr (.inl q)));omega
      · rcases m5 c q with p|p
        · exact k2 p
        · omega
      · have:=vlt c (aN.2 (.inr (.inr (.inr q))));omega
    · simp only[List.mem_append,List.mem_singleton]at g
      rcases g with q|q|q
      · have:=lo6 c (by simp[q]);omega
      · omega
      · have:=lo6 c (by simp[q]);omega
  refine al.ref (by simp only[EO,h3,h4]) (HM (db v s peer) (by have:=avi.links;omega) (by rw[aout];omega) peer (gb s pos ans (g7 l k).2 (aL v peer s.args).2) H7 o7 omsg nw fwd) ?_
  rintro _ H8 ⟨rfl,f8,o8,l8,m8,r8⟩
  have ev8:fF (db v s peer) peer (gb s pos ans (g7 l k).2 (aL v peer s.args).2)=dH v s peer pos ans:=by rw[dH,eq5]
  replace o8:kt H8 b _ f8:=o8
  rw[ev8]at o8
  replace l8:H7.length≤H8.length:=l8
  replace r8:∀c,¬(c∈f7∨c∈fw)→c≠b→c<H7.length→H8[c]? = H7[c]?:=r8
  have nQS:∀c∈fQ6,c∉f7∧c≠b∧c<H.length∧c∈fE:=fun c hc=>by
    have hl:=lo6 c (by simp[hc])
    refine⟨fun h=>?_,fun e=>o.bE (e▸sR6 c (by simp[hc])),hl,sR6 c (by simp[hc])⟩
    rcases m7 c h with⟨_,g⟩|g
    · exact g (by simp[hc])
    · simp only[List.mem_append,List.mem_singleton]at g
      rcases g with q|q|q
      · exact dS6 c q c (by simp[hc]) rfl
      · omega
      · exact dQ6 c hc c q rfl
  have oq7:b6 H7 wQ (.sl 7 (r.queue.map aM.cd)) fQ6:=oQ6.frame fun c hc=>r7 c (fun e=>bnR6 (e▸(by simp[hc])))
  have lq:=(cP oq7).2
  rw[List.length_map]at lq
  obtain⟨ptr,rws,fpr,qb,hrows⟩:=oq7.rows nQ6
  obtain⟨k1,k2,k3,k4⟩:=yH (pos:=pos) (ans:=ans) yes
  rw[←hr]at k2
  have hq100:∀x∈r.queue,x.ok 100:=by rw[hr];exact(gj hvi s.result).2
  obtain⟨F,hF⟩:∃F:Nat→Prop,F=fun c=>c∈eL fE f2 fL f4∨c∈fs:=⟨_,rfl⟩
  have FE:∀c∈fE,F c:=fun c hc=>by rw[hF];exact .inl (aN.2 (.inl hc))
  have l7':H6.length≤H7.length:=by omega
  have f7F:∀c∈f7,F c∨H.length≤c:=fun c hc=>by
    rcases m7 c hc with⟨g,_⟩|g
    · rcases aN.1 g with q|q|q|q
      · exact .inl (FE c q)
      · exact .inl (by rw[hF];exact .inl (aN.2 (.inr (.inl q))))
      · rcases m5 c q with p|p
        · exact(m1 c p).imp (fun z=>by rw[hF];exact .inl (aN.2 (.inr (.inr (.inl z))))) id
        · exact .inr (by omega)
      · exact .inl (by rw[hF];exact .inl (aN.2 (.inr (.inr (.inr q)))))
    · simp only[List.mem_append,List.mem_singleton]at g
      rcases g with q|q|q
      · exact .inl (FE c (sR6 c (by simp[q])))
      · exact .inr (by omega)
      · exact .inl (FE c (sR6 c (by simp[q])))
  have fr7:∀c,¬F c→c≠b→c<H.length→H7[c]? = H[c]?:=fun c h1 h2 h3=>by
    rw[r7 c (fun e=>h1 (FE c (e▸bmR))),fr1 c h3 (fun h=>h1 (by rw[hF];exact .inl (aN.2 (.inr (.inr (.inl h))))))]
  simp only[EZ,ag,Nat.reduceAdd,Nat.reduceBEq,fJ,cw,cF,cG,cE,cq]
  refine et aC aD [] (fun x:Nat×AH×List Nat=>x.1≤r.queue.length∧kt x.2.1 b ((r.queue.take x.1).foldl (aT n) (dH v s peer pos ans)) x.2.2∧H.length≤x.2.1.length∧(∀c∈x.2.2,F c∨H.length≤c)∧(∀c,¬F c→c≠b→c<H.length→x.2.1[c]? = H[c]?)∧(∀c∈fQ6,(c=qb∨∃j,x.1≤j∧j<r.queue.length∧c∈fpr j)→x.2.1[c]? = H7[c]?∧c∉x.2.2)) (fun x=>r.queue.length-x.1)
    (fun x=>xY (.gp b 0 0) wQ (.int .i64 x.1) _ x.2.1) (0,H8,f8) ⟨by simp,o8,by simp only;omega,fun c hc=>by
      rcases m8 c hc with(g|g)|g
      · exact f7F c g
      · exact .inr (mw c g).1
      · exact .inr (by omega),fun c h1 h2 h3=>by
      rw[r8 c (fun h=>by
        rcases h with g|g
        · rcases f7F c g with q|q
          · exact h1 q
          · omega
        · have:=(mw c g).1;omega) h2 (by omega),fr7 c h1 h2 h3],fun c hc _=>by
      obtain⟨q1,q2,q3,q4⟩:=nQS c hc
      have q5:c∉fw:=fun h=>by have:=(mw c h).1;omega
      refine⟨r8 c (fun h=>h.elim q1 q5) q2 (by omega),fun h=>?_⟩
      rcases m8 c h with(g|g)|g
      · exact q1 g
      · exact q5 g
      · omega⟩ ⟨by simp[xY,fY,fO],rfl,rfl⟩ ?_
  rintro⟨i,Hi,fi⟩ ⟨hi,oi,li,mi,ri,qi⟩
  simp only at hi oi li mi ri qi
  simp only[EZ,ag,Nat.reduceAdd,Nat.reduceBEq,fJ,cw,cF,cG,cE,cq,xY,lq]
  refine bP (fun hlt=>?_) (fun hge=>?_)
  rotate_left
  · have hge:i=r.queue.length:=by simp at hge;omega
    subst hge
    rw[List.take_length]at oi
    simp only[EZ,ag,Nat.reduceAdd,Nat.reduceBEq,fJ,cw,cF,cG,cE,cq]
    rw[yes,yf]
    have fin:gg H b (fun c=>c∈eL fE f2 fL f4∨c∈fs) Hi (r.queue.foldl (aT n) (dH v s peer pos ans)):=⟨fi,oi,li,by rw[hF]at mi;exact mi,by rw[hF]at ri;exact ri⟩
    first|exact⟨rfl,rfl,fin⟩|exact⟨rfl,fin⟩|exact fin
  have hlt:i<r.queue.length:=by simpa using hlt
  obtain⟨p1,p2,p3,p4,p5,p6,p7⟩:=hrows i (by simpa using hlt)
  rw[List.getElem_map]at p3
  obtain⟨wa',er,oa'⟩:=ig p3
  have cR:∀(e:List AV) (L:List (List AV)),(St.mk e L Hi).cells (ptr i) 7=some (rws i):=fun e L=>p2 Hi e L (qi qb p6 (.inl rfl)).1
  rw[er]at cR p3
  have pi:aG Hi _ _ (fpr i):=p3.frame fun c hc=>(qi c (p5 c hc).1 (.inr ⟨i,Nat.le_refl _,hlt,hc⟩)).1
  obtain⟨t1,t2,t3,t4⟩:=oa'.cell
  obtain⟨fk1,fk2,fk3,fk4⟩:=nC (jJ n) (r.queue.take i) (dH v s peer pos ans)
  have wt:∀(q:List aM) (i:Nat) (h:i<q.length),rX (q.take i)+(2+q[i].args.length)≤rX q:=fun q=>by
    induction q with
    | nil=>intro i h;simp at h
    | cons a q ih=>
      intro i h
      cases i with
      | zero=>simp[rX]
      | succ i=>have:=ih i (by simpa using h);simp only[rX,List.take_succ_cons,List.map_cons,List.sum_cons,List.getElem_cons_succ]at *;omega
  have wti:=wt r.queue i hlt
  simp only[EZ,ag,Nat.reduceAdd,Nat.reduceBEq,fJ,cw,cF,cG,cE,cq,p1,cR,lq]
  refine al.ref (by simp only[EO,t3,t4]) (hD _ r.queue[i] Hi b fi _ (fpr i) (by omega) (fk4 (k4 hvi hs) fun x hx=>hq100 x (List.mem_of_mem_take hx)) (hq100 _ (List.getElem_mem hlt)) (by omega) oi pi p4 (fun c hc=>⟨(qi c (p5 c hc).1 (.inr ⟨i,Nat.le_refl _,hlt,hc⟩)).2,(nQS c (p5 c hc).1).2.1⟩)) ?_
  rintro _ H9 ⟨rfl,f9,o9,l9,m9,r9⟩
  replace o9:kt H9 b _ f9:=o9
  replace l9:Hi.length≤H9.length:=l9
  replace r9:∀c,¬(c∈fi∨c∈fpr i)→c≠b→c<Hi.length→H9[c]? = Hi[c]?:=r9
  simp only[EZ,ag,Nat.reduceAdd,Nat.reduceBEq,fJ,cw,cF,cG,cE,cq]
  have ts:(r.queue.take (i+1)).foldl (aT n) (dH v s peer pos ans)=aT n ((r.queue.take i).foldl (aT n) (dH v s peer pos ans)) r.queue[i]:=by
    rw[List.take_succ_eq_append_getElem hlt,List.foldl_append];rfl
  refine⟨(i+1,H9,f9),⟨hlt,by simp only;rw[ts];exact o9,by simp only;omega,fun c hc=>?_,fun c h1 h2 h3=>?_,fun c hc hj=>?_⟩,by simp only;omega,⟨by rw[wN (by have:=(yQ r.queue);omega)];simp[xY,fY,fO],rfl,rfl⟩⟩
  · rcases m9 c hc with(g|g)|g
    · exact mi c g
    · exact .inl (FE c (nQS c (p5 c g).1).2.2.2)
    · exact .inr (by omega)
  · simp only
    rw[r9 c (fun h=>by
      rcases h with g|g
      · rcases mi c g with q|q
        · exact h1 q
        · omega
      · exact h1 (FE c (nQS c (p5 c g).1).2.2.2)) h2 (by omega),ri c h1 h2 h3]
  · simp only at hj ⊢
    have hj':c=qb∨∃j,i≤j∧j<r.queue.length∧c∈fpr j:=hj.imp id fun⟨j,a,b,c⟩=>⟨j,by omega,b,c⟩
    obtain⟨e1,e2⟩:=qi c hc hj'
    obtain⟨_,e3,e4,_⟩:=nQS c hc
    have e5:c∉fpr i:=fun h=>by
      rcases hj with g|⟨j,g1,g2,g3⟩
      · exact(p5 c h).2 g
      · exact p7 j (by simpa using g2) (by omega) c h g3
    refine⟨by rw[r9 c (fun h=>h.elim e2 e5) e3 (by omega),e1],fun h=>?_⟩
    rcases m9 c h with(g|g)|g
    · exact e2 g
    · exact e5 g
    · omega
end Go.Proofs.YtccjhmhkfnnmaaaGreat
