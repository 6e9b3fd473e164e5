import Derived.Test.YtccjhmhkfnnmaaaGreatCodeFnSends
import Derived.Test.YtccjhmhkfnnmaaaGreatAmG8
import Derived.Test.YtccjhmhkfnnmaaaGreatAmG9
set_option linter.unusedVariables false
set_option linter.unusedSimpArgs false
namespace Go.Proofs.YtccjhmhkfnnmaaaGreat
open Go.AM
variable {Γ:bY}
end Go.Proofs.YtccjhmhkfnnmaaaGreat
namespace Go.Proofs.YtccjhmhkfnnmaaaGreat
open Go.AM
variable {Γ:bY}
def rO(n lo hi:Int):Bool:=decide (lo≤n) && decide (n≤hi)
theorem dW(n lo hi:Int)(h:AH):T Tryz.prog Γ Fn.lH [.int .i64 n,.int .i64 lo,.int .i64 hi] h fun v h'=>v=.bool (rO n lo hi)∧h'=h:=by
  refine JA (au aC aD [] _ _ _ ?_)
  unfold Ef
  simp only[EZ,ag,Nat.reduceAdd,Nat.reduceBEq,Bo]
  refine lC (fun h1=>?_) (fun h1=>?_)<;>simp only[EZ,ag,Nat.reduceAdd,Nat.reduceBEq,Bo,h1]
  · exact⟨rfl,by simp only[rO,h1,Bool.true_and]⟩
  · exact⟨rfl,by simp only[rO,h1,Bool.false_and]⟩
theorem u7(n lo hi:Int)(h:AH):T Tryz.prog Γ Fn.Fx [.int .i64 n,.int .i64 lo,.int .i64 hi] h fun v h'=>v=.bool (rO n lo hi)∧h'=h:=by
  refine O7 (au aC aD [] _ _ _ ?_)
  unfold Jj
  simp only[EZ,ag,Nat.reduceAdd,Nat.reduceBEq,Dv]
  refine lC (fun h1=>?_) (fun h1=>?_)<;>simp only[EZ,ag,Nat.reduceAdd,Nat.reduceBEq,Dv,h1]
  · exact⟨rfl,by simp only[rO,h1,Bool.true_and]⟩
  · exact⟨rfl,by simp only[rO,h1,Bool.false_and]⟩
theorem E6(β:Bool)(v:ar)(hl:v.links.length≤1048576)(peer:Int)(h:AH):T Tryz.prog Γ Fn.KD [.agg (v.c β),.int .i64 peer] h fun r h'=>r=.int .i64 (gE (fun l:aB=>l.peer == peer) v.links)∧h'=h:=by
  have L0:=di β 7 false v.links (aB.c β)
  refine Po (au aC aD [] _ _ _ ?_)
  unfold Ju
  simp only[EZ,ag,Nat.reduceAdd,Nat.reduceBEq,vu]
  refine et aC aD [] (fun k:Nat=>k≤v.links.length∧∀(i:Nat) (hi:i<v.links.length),i<k→(v.links[i].peer == peer)=false) (fun k=>v.links.length-k)
    (fun k=>yP (.int .i64 peer) (.lp ([]:List (List AV)).length 0) (.int .i64 k) (([]:List (List AV))++[v.c β]) h) 0 ⟨by omega,fun i hi h=>by omega⟩ ⟨by simp[yP,fY,fO],rfl,rfl⟩ ?_
  rintro k ⟨hk,ht⟩
  simp only[EZ,ag,Nat.reduceAdd,Nat.reduceBEq,vu,yP,ar.c,L0]
  refine bP (fun hlt=>?_) (fun hge=>?_)
  · have hlt:k<v.links.length:=by simpa using hlt
    have i0:=dU (β:=β) (sz:=7) (ex:=false) (ce:=aB.c β) hlt
    cases hp:v.links[k].peer == peer
    · simp only[EZ,ag,Nat.reduceAdd,Nat.reduceBEq,vu,i0,ar.c,aB.c,hp]
      exact⟨k+1,⟨hlt,sC (P:=fun l:aB=>(l.peer == peer)=false) ht hp⟩,by omega,⟨by rw[wN (by omega)];simp[yP,fY,fO],rfl,rfl⟩⟩
    · simp only[EZ,ag,Nat.reduceAdd,Nat.reduceBEq,vu,i0,ar.c,aB.c,hp]
      exact⟨rfl,by rw[xG (p:=fun l:aB=>l.peer == peer) hlt ht hp]⟩
  · have hge:k=v.links.length:=by simp at hge;omega
    subst hge
    simp only[EZ,ag,Nat.reduceAdd,Nat.reduceBEq,vu]
    exact⟨rfl,by rw[rr (p:=fun l:aB=>l.peer == peer) fun i hi=>ht i hi hi]⟩
theorem Ot(β:Bool)(x:aB)(peer:Int)(H:AH){k:Nat}(hk:b7 H k=some (0,[.int .i64 peer])):T Tryz.prog Γ Fn.RL [.agg (x.c β),.gp k 0 0] H fun v h'=>v=.bool (x.peer == peer)∧h'=H:=by
  refine LX (au aC aD [] _ _ _ ?_)
  unfold J0
  have hc:∀(e:List AV) (l:List (List AV)) (off n:Nat),(St.mk e l H).cells (.gp k 0 off) n=sub [.int .i64 peer] off n:=fun e l off n=>bp hk
  simp only[EZ,ag,Nat.reduceAdd,Nat.reduceBEq,JX,aB.c,hc]
  first|exact⟨rfl,rfl⟩|exact rfl
theorem Rt(β:Bool)(v:ar)(hl:v.links.length≤1048576)(peer:Int)(h:AH):T Tryz.prog Γ Fn.PJ [.agg (v.c β),.int .i64 peer] h fun r h'=>r=.int .i64 (gE (fun l:aB=>l.peer == peer) v.links)∧h'=h:=by
  refine(?_:T Tryz.prog Γ Fn.PJ _ h fun r h'=>r=.int .i64 (gE (fun l:aB=>l.peer == peer) v.links)∧∃N,h'=h++N).drop (by rintro v h' ⟨rfl,N,rfl⟩;exact⟨N,rfl,.int _ _,rfl,rfl⟩)
  refine QW (au aC aD [3] _ _ _ ?_)
  unfold Kl
  simp only[EZ,ag,Nat.reduceAdd,Nat.reduceBEq,Ex,tN _ _ (show List.all [AV.int .i64 peer] bj=true from rfl),i6,ar.c]
  have hcall:=j6 (P:=Tryz.prog) (Γ:=Γ) aC aD (sz:=7) (agg:=true) (fun hw=>G6 hw) (β:=β) (l:=v.links) (c:=aB.c β) (by omega) (fun x=>⟨⟨rfl,.inl rfl⟩,rfl⟩) (g:=Fn.RL) (first:=[]) (caps:=[.gp h.length 0 0]) rfl (fun l:aB=>l.peer == peer) (h:=h++[some (0,[.int .i64 peer])]) (fun x hx=>Ot β x peer _ (cW _ _))
  refine al.val (by simp only[EO]) hcall ?_
  simp only[EZ,ag,Nat.reduceAdd,Nat.reduceBEq,Ex]
  exact⟨rfl,_,rfl⟩
theorem BN{α:Type}(p:α→Bool)(l:List α):decide (0≤gE p l)=l.any p:=by
  rcases jS p l with⟨k,hk,e1,e2,e3⟩|⟨e1,e2,e3⟩
  · rw[e1]
    have h2:l.any p=true:=List.any_eq_true.2 ⟨_,List.mem_of_find?_eq_some e3,List.find?_some e3⟩
    rw[h2];simp
  · rw[e1]
    have h2:l.any p=false:=by
      cases hh:l.any p
      · rfl
      · obtain⟨x,hx,hp⟩:=List.any_eq_true.1 hh
        have:=List.find?_eq_none.1 e2 x hx
        exact absurd hp this
    rw[h2];rfl
theorem rZ{g:FuncId}{caps:List AV}(hc:caps.all dY=true)(hc2:caps.all g9=true)(p:aB→Bool)(β:Bool)(l:List aB)(hl:l.length≤1048576){h:AH}(hp:∀x∈l,T Tryz.prog Γ g ([]++([.agg (x.c β)]++caps)) h fun v h'=>v=.bool (p x)∧h'=h):
    T Tryz.prog Γ Fn.Sd [.vs β 7 false (l.map (aB.c β)),.fn g [] caps] h fun v h'=>v=.bool (l.any p)∧h'=h:=by
  have hcall:=j6 (P:=Tryz.prog) (Γ:=Γ) aC aD (sz:=7) (agg:=true) (fun hw=>G6 hw) (β:=β) (l:=l) (c:=aB.c β) (by omega) (fun x=>⟨⟨rfl,.inl rfl⟩,rfl⟩) (g:=g) (first:=[]) (caps:=caps) hc p (h:=h) hp
  refine Qj (au aC aD [] _ _ _ ?_)
  unfold HI
  simp only[EZ,ag,Nat.reduceAdd,Nat.reduceBEq,CX]
  refine al.val (by simp only[EO,hc,hc2]) hcall ?_
  simp only[EZ,ag,Nat.reduceAdd,Nat.reduceBEq,CX]
  rw[show decide (gE p l≥0)=l.any p from BN p l]
  first|exact⟨rfl,rfl⟩|exact rfl
def su(l:List aB)(peer:Int):Bool:=l.any fun x=>x.peer == peer && x.up
theorem AW{l:List aB}{peer:Int}(h:su l peer=true):∃k:Nat,∃hk:k<l.length,gE (fun x:aB=>x.peer == peer) l=(k:Int)∧l.find? (fun x:aB=>x.peer == peer)=some l[k]:=by
  rcases jS (fun x:aB=>x.peer == peer) l with⟨k,hk,e1,e2,e3⟩|⟨e1,e2,e3⟩
  · exact⟨k,hk,e1,e3⟩
  · obtain⟨x,hx,hp⟩:=List.any_eq_true.1 h
    have:=List.find?_eq_none.1 e2 x hx
    simp only[Bool.and_eq_true]at hp
    exact absurd hp.1 this
theorem jW(β:Bool)(v:ar)(hl:v.links.length≤1048576)(peer:Int)(h:AH):T Tryz.prog Γ Fn.AN [.agg (v.c β),.int .i64 peer] h fun r h'=>r=.bool (su v.links peer)∧h'=h:=by
  have L0:=di β 7 false v.links (aB.c β)
  refine QO (au aC aD [] _ _ _ ?_)
  unfold IP
  simp only[EZ,ag,Nat.reduceAdd,Nat.reduceBEq,tU]
  refine et aC aD [] (fun k:Nat=>k≤v.links.length∧∀(i:Nat) (hi:i<v.links.length),i<k→(v.links[i].peer == peer && v.links[i].up)=false) (fun k=>v.links.length-k)
    (fun k=>tI (.int .i64 peer) (.lp ([]:List (List AV)).length 0) (.int .i64 k) (([]:List (List AV))++[v.c β]) h) 0 ⟨by omega,fun i hi h=>by omega⟩ ⟨by simp[tI,fY,fO],rfl,rfl⟩ ?_
  rintro k ⟨hk,ht⟩
  simp only[EZ,ag,Nat.reduceAdd,Nat.reduceBEq,tU,tI,ar.c,L0]
  refine bP (fun hlt=>?_) (fun hge=>?_)
  · have hlt:k<v.links.length:=by simpa using hlt
    have i0:=dU (β:=β) (sz:=7) (ex:=false) (ce:=aB.c β) hlt
    have htrue:(v.links[k].peer == peer && v.links[k].up)=true→su v.links peer=true:=fun h=>List.any_eq_true.2 ⟨_,List.getElem_mem hlt,h⟩
    cases hp:v.links[k].peer == peer
    · simp only[EZ,ag,Nat.reduceAdd,Nat.reduceBEq,tU,i0,ar.c,aB.c,hp]
      exact⟨k+1,⟨hlt,sC (P:=fun l:aB=>(l.peer == peer && l.up)=false) ht (by rw[hp];rfl)⟩,by omega,⟨by rw[wN (by omega)];simp[tI,fY,fO],rfl,rfl⟩⟩
    cases hu:v.links[k].up
    · simp only[EZ,ag,Nat.reduceAdd,Nat.reduceBEq,tU,i0,ar.c,aB.c,hp,hu]
      exact⟨k+1,⟨hlt,sC (P:=fun l:aB=>(l.peer == peer && l.up)=false) ht (by rw[hp,hu];rfl)⟩,by omega,⟨by rw[wN (by omega)];simp[tI,fY,fO],rfl,rfl⟩⟩
    · simp only[EZ,ag,Nat.reduceAdd,Nat.reduceBEq,tU,i0,ar.c,aB.c,hp,hu]
      have ax:=htrue (by rw[hp,hu];rfl)
      first|exact⟨rfl,by rw[ax],rfl⟩|exact⟨rfl,by rw[ax]⟩|rw[ax]
  · have hge:k=v.links.length:=by simp at hge;omega
    subst hge
    simp only[EZ,ag,Nat.reduceAdd,Nat.reduceBEq,tU]
    have ax:su v.links peer=false:=by
      cases hh:su v.links peer
      · rfl
      · obtain⟨x,hx,hp⟩:=List.any_eq_true.1 hh
        obtain⟨i,hi,rfl⟩:=List.getElem_of_mem hx
        rw[ht i hi hi]at hp;cases hp
    first|exact⟨rfl,by rw[ax],rfl⟩|exact⟨rfl,by rw[ax]⟩|rw[ax]
end Go.Proofs.YtccjhmhkfnnmaaaGreat
namespace Go.Proofs.YtccjhmhkfnnmaaaGreat
open Go.AM
variable {Γ:bY}
theorem mM(β:Bool)(l:List ae)(hl:l.length≤1048576)(h:AH):T Tryz.prog Γ Fn.K9 [.vs β 2 false (l.map (ae.c β))] h (aV h [.c (.sl 2 (l.map ae.cd))]):=
  pG aC aD (fun hw=>N3 hw) (by omega) (by simp only[aQ];omega) (fun x=>⟨rfl,rfl⟩) (fun x=>(ae.cu false x).symm)
theorem QH(β:Bool)(x:aM)(hx:x.ok 1048576)(h:AH):T Tryz.prog Γ Fn.SW [.agg (x.c β)] h (aV h [.a x.cd]):=by
  refine T.iX ?_
  refine Mu (au aC aD [] _ _ _ ?_)
  unfold Ky
  simp only[EZ,ag,Nat.reduceAdd,Nat.reduceBEq,ES,aE,ER,aM.c]
  refine al.ref (by simp only[EO]) (mM β x.args hx.2 _) ?_
  rintro w H1 fr
  replace fr:aV h _ _ _:=fr
  obtain⟨fw,ow,nw,bw,ew⟩:=fr.c1
  obtain⟨c1,c2,c3,c4⟩:=ow.cell
  simp only[EZ,ag,Nat.reduceAdd,Nat.reduceBEq,ES,aE,ER,aM.c,c1,c2,c3]
  obtain⟨N,rfl⟩:=ew.out
  refine⟨by simp[dJ,dY,c4,c2,c3,mO,mW],_,N,fw,rfl,rfl,?_,nw,bw⟩
  have:fw=fw++[]:=by simp
  rw[this]
  exact .i (.s (.o ow (.i (.i (.i (.i .nil))))))
theorem Dc(β:Bool)(l:List aM)(hl:l.length≤1048576)(ho':∀x∈l,x.ok 1048576)(h:AH):T Tryz.prog Γ Fn.LG [.vs β 7 false (l.map (aM.c β))] h (aV h [.c (.sl 7 (l.map aM.cd))]):=by
  have L0:=di β 7 false l (aM.c β)
  generalize e0:AV.vs β 7 false (l.map (aM.c β))=a0 at *
  refine T.tq ?_
  refine Q3 (au aC aD [] _ _ _ ?_)
  unfold I2
  simp only[EZ,ag,Nat.reduceAdd,Nat.reduceBEq,we,EA,L0]
  refine et aC aD [] (fun x:Nat×AV×AH×List Nat×List (List AV)=>x.1≤l.length∧b6 x.2.2.1 x.2.1 (.sl 7 ((l.take x.1).map aM.cd)) x.2.2.2.1∧x.2.2.2.1.Nodup∧(∀c∈x.2.2.2.1,h.length≤c)∧cn h x.2.2.1) (fun x=>l.length-x.1)
    (fun x=>yG x.2.1 a0 (.int .i64 l.length) (.int .i64 x.1) x.2.2.2.2 x.2.2.1) (0,.gs h.length 0 0 0 0 7 true,h++[some (0,[])],[h.length],[]) ⟨by simp,dI h 7,by simp,by simp,cn.app _ _⟩ ⟨by simp[yG,fY,fO],rfl,rfl⟩ ?_
  rintro⟨k,v,H,fp,L⟩ ⟨hk,ho,nd,hfp,hN⟩
  simp only at hk ho nd hfp hN
  simp only[EZ,ag,Nat.reduceAdd,Nat.reduceBEq,we,yG]
  refine bP (fun hlt=>?_) (fun hge=>?_)
  rotate_left
  · have hge:k=l.length:=by simp at hge;omega
    subst hge
    simp only[EZ,ag,Nat.reduceAdd,Nat.reduceBEq,we]
    rw[List.take_length]at ho
    obtain⟨N,rfl⟩:=hN.out
    exact⟨ho.dJ,N,fp,rfl,ho,nd,hfp⟩
  have hlt:k<l.length:=by simpa using hlt
  have i0:=dU (β:=β) (sz:=7) (ex:=false) (ce:=aM.c β) hlt
  rw[e0]at i0
  have hox:=ho' _ (List.getElem_mem hlt)
  simp only[EZ,ag,Nat.reduceAdd,Nat.reduceBEq,we,i0,aM.c]
  refine al.ref (by simp only[EO]) (QH β l[k] hox _) ?_
  rintro _ H1 fr
  replace fr:aV H _ _ _:=fr
  obtain⟨aw,fw,rfl,ow,nw,bw,ew⟩:=fr.a1
  have hdis:(fp++fw).Nodup:=dO nd nw (fun c hc=>ho.lt c hc) bw
  replace ho:=ho.ext ew
  have hx1:=hN.trans ew
  have oo:=ow
  simp only[aM.cd,fW,fN,gB,iH,iv]at oo
  obtain⟨_,_,_,_,rfl,_,⟨rfl,rfl⟩,⟨_,_,_,_,rfl,_,⟨rfl,rfl⟩,⟨a2,_,g2,_,rfl,_,u2,⟨_,_,_,_,rfl,_,⟨rfl,rfl⟩,⟨_,_,_,_,rfl,_,⟨rfl,rfl⟩,⟨_,_,_,_,rfl,_,⟨rfl,rfl⟩,⟨_,_,_,_,rfl,_,⟨rfl,rfl⟩,⟨rfl,_⟩⟩⟩⟩⟩⟩⟩⟩:=oo
  obtain⟨c1,c2,c3,c4⟩:=u2.cell
  obtain⟨v',H',fp',ea,o',nd',hf',hl',hm'⟩:=cY (bytes:=80) ho hdis (by omega) rfl ow (by simp only[List.length_map,List.length_take,aQ];omega)
  simp only[EZ,ag,Nat.reduceAdd,Nat.reduceBEq,we,EA,c1,c2,c3,ea]
  refine⟨(k+1,v',H',fp',_),⟨hlt,by simp only;rw[List.take_succ_eq_append_getElem hlt,List.map_append];exact o',nd',fun c hc=>?_,hx1.yZ hl' hf' hfp⟩,by simp only;omega,⟨by rw[wN (by omega)];simp[yG,fY,fO],rfl,rfl⟩⟩
  have:=hN.len;have:=hx1.len
  rcases hm' c hc with g|g|g
  · exact hfp c g
  · have:=bw c g;omega
  · omega
theorem Dj(β:Bool)(l:List aM)(hl:l.length≤1048576)(ho':∀x∈l,x.ok 1048576)(h:AH):T Tryz.prog Γ Fn.Rv [.vs β 7 false (l.map (aM.c β))] h (aV h [.c (.sl 7 (l.map aM.cd))]):=by
  have L0:=di β 7 false l (aM.c β)
  generalize e0:AV.vs β 7 false (l.map (aM.c β))=a0 at *
  refine T.tq ?_
  refine NH (au aC aD [] _ _ _ ?_)
  unfold Gv
  simp only[EZ,ag,Nat.reduceAdd,Nat.reduceBEq,Ab,EA,L0]
  refine et aC aD [] (fun x:Nat×AV×AH×List Nat×List (List AV)=>x.1≤l.length∧b6 x.2.2.1 x.2.1 (.sl 7 ((l.take x.1).map aM.cd)) x.2.2.2.1∧x.2.2.2.1.Nodup∧(∀c∈x.2.2.2.1,h.length≤c)∧cn h x.2.2.1) (fun x=>l.length-x.1)
    (fun x=>xV a0 x.2.1 (.int .i64 x.1) x.2.2.2.2 x.2.2.1) (0,.gs h.length 0 0 0 0 7 true,h++[some (0,[])],[h.length],[]) ⟨by simp,dI h 7,by simp,by simp,cn.app _ _⟩ ⟨by simp[xV,fY,fO],rfl,rfl⟩ ?_
  rintro⟨k,v,H,fp,L⟩ ⟨hk,ho,nd,hfp,hN⟩
  simp only at hk ho nd hfp hN
  simp only[EZ,ag,Nat.reduceAdd,Nat.reduceBEq,Ab,xV,L0]
  refine bP (fun hlt=>?_) (fun hge=>?_)
  rotate_left
  · have hge:k=l.length:=by simp at hge;omega
    subst hge
    simp only[EZ,ag,Nat.reduceAdd,Nat.reduceBEq,Ab]
    rw[List.take_length]at ho
    obtain⟨N,rfl⟩:=hN.out
    exact⟨ho.dJ,N,fp,rfl,ho,nd,hfp⟩
  have hlt:k<l.length:=by simpa using hlt
  have i0:=dU (β:=β) (sz:=7) (ex:=false) (ce:=aM.c β) hlt
  rw[e0]at i0
  have hox:=ho' _ (List.getElem_mem hlt)
  have hal:l[k].args.length≤1048576:=hox.2
  have ho1:=ho.ext (cn.app H [some (0,[])])
  obtain⟨w,H1,fw,eb,ow,nw,hfw,hlw,hmw⟩:=kZ (bytes:=16) (dI H 2) (by simp) (by omega) (β:=β) (l:=l[k].args) (c:=ae.c β) (fun x=>⟨rfl,rfl⟩) (fun x=>(ae.cu false x).symm) (by simp only[List.length_nil,aQ];omega)
  have ew:cn H H1:=(cn.app H [some (0,[])]).yZ hlw hfw (by simp)
  have bw:∀c∈fw,H.length≤c:=fun c hc=>by
    rcases hmw c hc with g|g
    · simp at g;omega
    · simp at g;omega
  have hdis:(fp++(fw++[])).Nodup:=by rw[List.append_nil];exact dO nd nw (fun c hc=>ho.lt c hc) bw
  replace ho:=ho.ext ew
  have hx1:=hN.trans ew
  obtain⟨c1,c2,c3,c4⟩:=ow.cell
  have ow2:aG H1 [.int .i64 l[k].target,.str l[k].name,w,.int .i64 l[k].result,.int .i64 l[k].tag.vat,.int .i64 l[k].tag.entity,.int .i64 l[k].tag.seq] l[k].cd (fw++[]):=.i (.s (.o ow (.i (.i (.i (.i .nil))))))
  obtain⟨v',H',fp',ea,o',nd',hf',hl',hm'⟩:=cY (bytes:=80) ho hdis (by omega) rfl ow2 (by simp only[List.length_map,List.length_take,aQ];omega)
  simp only[EZ,ag,Nat.reduceAdd,Nat.reduceBEq,Ab,i0,aM.c,EA,aE,eb,c1,c2,c3,ea]
  refine⟨(k+1,v',H',fp',_),⟨hlt,by simp only;rw[List.take_succ_eq_append_getElem hlt,List.map_append];exact o',nd',fun c hc=>?_,hx1.yZ hl' hf' hfp⟩,by simp only;omega,⟨by rw[wN (by omega)];simp[xV,fY,fO],rfl,rfl⟩⟩
  have:=hN.len;have:=hx1.len
  rcases hm' c hc with g|g|g
  · exact hfp c g
  · have:=bw c (by simpa using g);omega
  · omega
theorem zp(β:Bool)(l:List cf)(hl:l.length≤1048576)(h:AH):T Tryz.prog Γ Fn.RO [.vs β 2 false (l.map (cf.c β))] h (aV h [.c (.sl 2 (l.map cf.cd))]):=
  pG aC aD (fun hw=>Nm hw) (by omega) (by simp only[aQ];omega) (fun x=>⟨rfl,rfl⟩) (fun x=>(cf.cu false x).symm)
theorem xP(β:Bool)(l:List aI)(hl:l.length≤1048576)(h:AH):T Tryz.prog Γ Fn.RN [.vs β 3 false (l.map (aI.c β))] h (aV h [.c (.sl 3 (l.map aI.cd))]):=
  pG aC aD (fun hw=>OM hw) (by omega) (by simp only[aQ];omega) (fun x=>⟨rfl,rfl⟩) (fun x=>(aI.cu false x).symm)
theorem mn(β:Bool)(l:List aP)(hl:l.length≤1048576)(h:AH):T Tryz.prog Γ Fn.LH [.vs β 2 false (l.map (aP.c β))] h (aV h [.c (.sl 2 (l.map aP.cd))]):=
  pG aC aD (fun hw=>Oo hw) (by omega) (by simp only[aQ];omega) (fun x=>⟨rfl,rfl⟩) (fun x=>(aP.cu false x).symm)
theorem Av(β:Bool)(l:List bW)(hl:l.length≤1048576)(h:AH):T Tryz.prog Γ Fn.SI [.vs β 2 false (l.map (bW.c β))] h (aV h [.c (.sl 2 (l.map bW.cd))]):=
  pG aC aD (fun hw=>O8 hw) (by omega) (by simp only[aQ];omega) (fun x=>⟨rfl,rfl⟩) (fun x=>(bW.cu false x).symm)
theorem QZ(β:Bool)(e:aq)(he:e.ok 1048576)(h:AH):T Tryz.prog Γ Fn.R0 [.agg (e.c β)] h (aV h [.a e.cd]):=by
  refine T.iX ?_
  refine Ri (au aC aD [] _ _ _ ?_)
  unfold J6
  simp only[EZ,ag,Nat.reduceAdd,Nat.reduceBEq,Am,pD,aE,ER,aq.c]
  refine al.ref (by simp only[EO]) (mM β e.slots he.1 _) ?_
  rintro w1 H1 fr
  replace fr:aV h _ _ _:=fr
  obtain⟨f1,o1,n1,b1,e1⟩:=fr.c1
  obtain⟨a1a,a1b,a1c,a1d⟩:=o1.cell
  simp only[EZ,ag,Nat.reduceAdd,Nat.reduceBEq,Am,pD,aE,ER,aq.c,a1a,a1b,a1c]
  refine⟨(by first|exact e1.mem _ _ _|exact dg (e1.mem _ _ _)),?_⟩
  refine al.ref (by simp only[EO]) (Dc β e.queue he.2.1 he.2.2.1 _) ?_
  rintro w2 H2 fr
  replace fr:aV H1 _ _ _:=fr
  obtain⟨f2,o2,n2,b2,e2⟩:=fr.c1
  obtain⟨a2a,a2b,a2c,a2d⟩:=o2.cell
  simp only[EZ,ag,Nat.reduceAdd,Nat.reduceBEq,Am,pD,aE,ER,aq.c,a1a,a1b,a1c,a2a,a2b,a2c]
  refine⟨(by first|exact e2.mem _ _ _|exact dg (e2.mem _ _ _)),?_⟩
  refine al.ref (by simp only[EO]) (zp β e.askers he.2.2.2 _) ?_
  rintro w3 H3 fr
  replace fr:aV H2 _ _ _:=fr
  obtain⟨f3,o3,n3,b3,e3⟩:=fr.c1
  obtain⟨a3a,a3b,a3c,a3d⟩:=o3.cell
  simp only[EZ,ag,Nat.reduceAdd,Nat.reduceBEq,Am,pD,aE,ER,aq.c,a1a,a1b,a1c,a2a,a2b,a2c,a3a,a3b,a3c]
  have n12:(f1++f2).Nodup:=dO n1 n2 (fun c hc=>o1.lt c hc) b2
  have q1:=(o1.ext e2).ext e3
  have q2:=o2.ext e3
  have hl1:=e1.len
  have hl2:=e2.len
  have n123:((f1++f2)++f3).Nodup:=dO n12 n3 (fun c hc=>by
    rcases List.mem_append.1 hc with g|g
    · have:=o1.lt c g;omega
    · exact o2.lt c g) b3
  obtain⟨N,hN⟩:=((e1.trans e2).trans e3).out
  refine⟨by simp[dJ,dY,a1b,a1c,a1d,a2b,a2c,a2d,a3b,a3c,a3d,mO,mW,oU],_,N,f1++(f2++(f3++[])),rfl,hN,?_,by rw[List.append_nil,←List.append_assoc];exact n123,fun c hc=>?_⟩
  · exact .i (.i (.o q1 (.i (.i (.i (.o q2 (.o o3 (.i (.i (.i (.i .nil)))))))))))
  · simp only[List.append_nil,List.mem_append]at hc
    rcases hc with g|g|g
    · exact b1 c g
    · have:=b2 c g;omega
    · have:=b3 c g;omega
theorem P3(β:Bool)(e:aB)(he:e.ok 1048576)(h:AH):T Tryz.prog Γ Fn.RW [.agg (e.c β)] h (aV h [.a e.cd]):=by
  refine T.iX ?_
  refine PZ (au aC aD [] _ _ _ ?_)
  unfold GO
  simp only[EZ,ag,Nat.reduceAdd,Nat.reduceBEq,An,pr,aE,ER,aB.c]
  refine al.ref (by simp only[EO]) (xP β e.exports he.1 _) ?_
  rintro w1 H1 fr
  replace fr:aV h _ _ _:=fr
  obtain⟨f1,o1,n1,b1,e1⟩:=fr.c1
  obtain⟨a1a,a1b,a1c,a1d⟩:=o1.cell
  simp only[EZ,ag,Nat.reduceAdd,Nat.reduceBEq,An,pr,aE,ER,aB.c,a1a,a1b,a1c]
  refine⟨(by first|exact e1.mem _ _ _|exact dg (e1.mem _ _ _)),?_⟩
  refine al.ref (by simp only[EO]) (mn β e.questions he.2.1 _) ?_
  rintro w2 H2 fr
  replace fr:aV H1 _ _ _:=fr
  obtain⟨f2,o2,n2,b2,e2⟩:=fr.c1
  obtain⟨a2a,a2b,a2c,a2d⟩:=o2.cell
  simp only[EZ,ag,Nat.reduceAdd,Nat.reduceBEq,An,pr,aE,ER,aB.c,a1a,a1b,a1c,a2a,a2b,a2c]
  refine⟨(by first|exact e2.mem _ _ _|exact dg (e2.mem _ _ _)),?_⟩
  refine al.ref (by simp only[EO]) (mn β e.answers he.2.2 _) ?_
  rintro w3 H3 fr
  replace fr:aV H2 _ _ _:=fr
  obtain⟨f3,o3,n3,b3,e3⟩:=fr.c1
  obtain⟨a3a,a3b,a3c,a3d⟩:=o3.cell
  simp only[EZ,ag,Nat.reduceAdd,Nat.reduceBEq,An,pr,aE,ER,aB.c,a1a,a1b,a1c,a2a,a2b,a2c,a3a,a3b,a3c]
  have n12:(f1++f2).Nodup:=dO n1 n2 (fun c hc=>o1.lt c hc) b2
  have q1:=(o1.ext e2).ext e3
  have q2:=o2.ext e3
  have hl1:=e1.len
  have hl2:=e2.len
  have n123:((f1++f2)++f3).Nodup:=dO n12 n3 (fun c hc=>by
    rcases List.mem_append.1 hc with g|g
    · have:=o1.lt c g;omega
    · exact o2.lt c g) b3
  obtain⟨N,hN⟩:=((e1.trans e2).trans e3).out
  refine⟨by simp[dJ,dY,a1b,a1c,a1d,a2b,a2c,a2d,a3b,a3c,a3d,mO,mW,oU],_,N,f1++(f2++(f3++[])),rfl,hN,?_,by rw[List.append_nil,←List.append_assoc];exact n123,fun c hc=>?_⟩
  · exact .i (.b (.o q1 (.i (.o q2 (.i (.o o3 .nil))))))
  · simp only[List.append_nil,List.mem_append]at hc
    rcases hc with g|g|g
    · exact b1 c g
    · have:=b2 c g;omega
    · have:=b3 c g;omega
theorem No(β:Bool)(e:bm)(he:e.ok 1048576)(h:AH):T Tryz.prog Γ Fn.RR [.agg (e.c β)] h (aV h [.a e.cd]):=by
  refine T.iX ?_
  refine Q6 (au aC aD [] _ _ _ ?_)
  unfold Iu
  simp only[EZ,ag,Nat.reduceAdd,Nat.reduceBEq,Dm,aE,ER,bm.c]
  refine al.ref (by simp only[EO]) (Av β e.args he.2 _) ?_
  rintro w1 H1 fr
  replace fr:aV h _ _ _:=fr
  obtain⟨f1,o1,n1,b1,e1⟩:=fr.c1
  obtain⟨a1a,a1b,a1c,a1d⟩:=o1.cell
  simp only[EZ,ag,Nat.reduceAdd,Nat.reduceBEq,Dm,aE,ER,bm.c,a1a,a1b,a1c]
  obtain⟨N,hN⟩:=e1.out
  refine⟨by simp[dJ,dY,a1b,a1c,a1d,mO,mW,oU],_,N,f1++[],rfl,hN,?_,by rw[List.append_nil];exact n1,fun c hc=>b1 c (by simpa using hc)⟩
  exact .i (.i (.i (.i (.s (.o o1 (.i (.i (.i (.i (.i (.i .nil)))))))))))
theorem GA(β:Bool)(e:aq)(he:e.ok 1048576)(h:AH):T Tryz.prog Γ Fn.LF [.agg (e.c β)] h (aV h [.a e.cd]):=by
  refine T.iX ?_
  refine Oc (au aC aD [] _ _ _ ?_)
  unfold Gz
  obtain⟨w1,H1,f1,ea1,o1,n1,hf1,hl1,hm1⟩:=kZ (bytes:=16) (dI h 2) (by simp) (by omega) (β:=β) (l:=e.slots) (c:=ae.c β) (fun x=>⟨rfl,rfl⟩) (fun x=>(ae.cu false x).symm) (by have:=he.1;simp only[List.length_nil,aQ];omega)
  have e1:cn h H1:=(cn.app h [some (0,[])]).yZ hl1 hf1 (by simp)
  have b1:∀c∈f1,h.length≤c:=fun c hc=>by
    rcases hm1 c hc with g|g
    · simp at g;omega
    · simp at g;omega
  obtain⟨a1a,a1b,a1c,a1d⟩:=o1.cell
  simp only[EZ,ag,Nat.reduceAdd,Nat.reduceBEq,Dd,aE,ER,aq.c,EA,ea1,a1a,a1b,a1c]
  refine al.ref (by simp only[EO]) (Dj β e.queue he.2.1 he.2.2.1 _) ?_
  rintro w2 H2 fr
  replace fr:aV H1 _ _ _:=fr
  obtain⟨f2,o2,n2,b2,e2⟩:=fr.c1
  obtain⟨a2a,a2b,a2c,a2d⟩:=o2.cell
  obtain⟨w3,H3,f3,ea3,o3,n3,hf3,hl3,hm3⟩:=kZ (bytes:=16) (dI H2 2) (by simp) (by omega) (β:=β) (l:=e.askers) (c:=cf.c β) (fun x=>⟨rfl,rfl⟩) (fun x=>(cf.cu false x).symm) (by have:=he.2.2.2;simp only[List.length_nil,aQ];omega)
  have e3:cn H2 H3:=(cn.app H2 [some (0,[])]).yZ hl3 hf3 (by simp)
  have b3:∀c∈f3,H2.length≤c:=fun c hc=>by
    rcases hm3 c hc with g|g
    · simp at g;omega
    · simp at g;omega
  obtain⟨a3a,a3b,a3c,a3d⟩:=o3.cell
  simp only[EZ,ag,Nat.reduceAdd,Nat.reduceBEq,Dd,aE,ER,aq.c,EA,ea1,a1a,a1b,a1c,a2a,a2b,a2c,ea3,a3a,a3b,a3c]
  have n12:(f1++f2).Nodup:=dO n1 n2 (fun c hc=>o1.lt c hc) b2
  have q1:=(o1.ext e2).ext e3
  have q2:=o2.ext e3
  have l1':=e1.len
  have l2':=e2.len
  have n123:((f1++f2)++f3).Nodup:=dO n12 n3 (fun c hc=>by
    rcases List.mem_append.1 hc with g|g
    · have:=o1.lt c g;omega
    · exact o2.lt c g) b3
  obtain⟨N,hN⟩:=((e1.trans e2).trans e3).out
  refine⟨by simp[dJ,dY,a1b,a1c,a1d,a2b,a2c,a2d,a3b,a3c,a3d,mO,mW,oU],_,N,f1++(f2++(f3++[])),rfl,hN,?_,by rw[List.append_nil,←List.append_assoc];exact n123,fun c hc=>?_⟩
  · exact .i (.i (.o q1 (.i (.i (.i (.o q2 (.o o3 (.i (.i (.i (.i .nil)))))))))))
  · simp only[List.append_nil,List.mem_append]at hc
    rcases hc with g|g|g
    · exact b1 c g
    · have:=b2 c g;omega
    · have:=b3 c g;omega
theorem Ey(β:Bool)(e:aB)(he:e.ok 1048576)(h:AH):T Tryz.prog Γ Fn.Ly [.agg (e.c β)] h (aV h [.a e.cd]):=by
  refine T.iX ?_
  refine NN (au aC aD [] _ _ _ ?_)
  unfold Hz
  obtain⟨w1,H1,f1,ea1,o1,n1,hf1,hl1,hm1⟩:=kZ (bytes:=24) (dI h 3) (by simp) (by omega) (β:=β) (l:=e.exports) (c:=aI.c β) (fun x=>⟨rfl,rfl⟩) (fun x=>(aI.cu false x).symm) (by have:=he.1;simp only[List.length_nil,aQ];omega)
  have e1:cn h H1:=(cn.app h [some (0,[])]).yZ hl1 hf1 (by simp)
  have b1:∀c∈f1,h.length≤c:=fun c hc=>by
    rcases hm1 c hc with g|g
    · simp at g;omega
    · simp at g;omega
  obtain⟨a1a,a1b,a1c,a1d⟩:=o1.cell
  obtain⟨w2,H2,f2,ea2,o2,n2,hf2,hl2,hm2⟩:=kZ (bytes:=16) (dI H1 2) (by simp) (by omega) (β:=β) (l:=e.questions) (c:=aP.c β) (fun x=>⟨rfl,rfl⟩) (fun x=>(aP.cu false x).symm) (by have:=he.2.1;simp only[List.length_nil,aQ];omega)
  have e2:cn H1 H2:=(cn.app H1 [some (0,[])]).yZ hl2 hf2 (by simp)
  have b2:∀c∈f2,H1.length≤c:=fun c hc=>by
    rcases hm2 c hc with g|g
    · simp at g;omega
    · simp at g;omega
  obtain⟨a2a,a2b,a2c,a2d⟩:=o2.cell
  obtain⟨w3,H3,f3,ea3,o3,n3,hf3,hl3,hm3⟩:=kZ (bytes:=16) (dI H2 2) (by simp) (by omega) (β:=β) (l:=e.answers) (c:=aP.c β) (fun x=>⟨rfl,rfl⟩) (fun x=>(aP.cu false x).symm) (by have:=he.2.2;simp only[List.length_nil,aQ];omega)
  have e3:cn H2 H3:=(cn.app H2 [some (0,[])]).yZ hl3 hf3 (by simp)
  have b3:∀c∈f3,H2.length≤c:=fun c hc=>by
    rcases hm3 c hc with g|g
    · simp at g;omega
    · simp at g;omega
  obtain⟨a3a,a3b,a3c,a3d⟩:=o3.cell
  simp only[EZ,ag,Nat.reduceAdd,Nat.reduceBEq,JB,aE,ER,aB.c,EA,ea1,a1a,a1b,a1c,ea2,a2a,a2b,a2c,ea3,a3a,a3b,a3c]
  have n12:(f1++f2).Nodup:=dO n1 n2 (fun c hc=>o1.lt c hc) b2
  have q1:=(o1.ext e2).ext e3
  have q2:=o2.ext e3
  have l1':=e1.len
  have l2':=e2.len
  have n123:((f1++f2)++f3).Nodup:=dO n12 n3 (fun c hc=>by
    rcases List.mem_append.1 hc with g|g
    · have:=o1.lt c g;omega
    · exact o2.lt c g) b3
  obtain⟨N,hN⟩:=((e1.trans e2).trans e3).out
  refine⟨by simp[dJ,dY,a1b,a1c,a1d,a2b,a2c,a2d,a3b,a3c,a3d,mO,mW,oU],_,N,f1++(f2++(f3++[])),rfl,hN,?_,by rw[List.append_nil,←List.append_assoc];exact n123,fun c hc=>?_⟩
  · exact .i (.b (.o q1 (.i (.o q2 (.i (.o o3 .nil))))))
  · simp only[List.append_nil,List.mem_append]at hc
    rcases hc with g|g|g
    · exact b1 c g
    · have:=b2 c g;omega
    · have:=b3 c g;omega
theorem Pz(β:Bool)(e:bm)(he:e.ok 1048576)(h:AH):T Tryz.prog Γ Fn.RT [.agg (e.c β)] h (aV h [.a e.cd]):=by
  refine T.iX ?_
  refine Mw (au aC aD [] _ _ _ ?_)
  unfold Ke
  obtain⟨w1,H1,f1,ea1,o1,n1,hf1,hl1,hm1⟩:=kZ (bytes:=16) (dI h 2) (by simp) (by omega) (β:=β) (l:=e.args) (c:=bW.c β) (fun x=>⟨rfl,rfl⟩) (fun x=>(bW.cu false x).symm) (by have:=he.2;simp only[List.length_nil,aQ];omega)
  have e1:cn h H1:=(cn.app h [some (0,[])]).yZ hl1 hf1 (by simp)
  have b1:∀c∈f1,h.length≤c:=fun c hc=>by
    rcases hm1 c hc with g|g
    · simp at g;omega
    · simp at g;omega
  obtain⟨a1a,a1b,a1c,a1d⟩:=o1.cell
  simp only[EZ,ag,Nat.reduceAdd,Nat.reduceBEq,Je,aE,ER,bm.c,EA,ea1,a1a,a1b,a1c]
  obtain⟨N,hN⟩:=e1.out
  refine⟨by simp[dJ,dY,a1b,a1c,a1d,mO,mW,oU],_,N,f1++[],rfl,hN,?_,by rw[List.append_nil];exact n1,fun c hc=>b1 c (by simpa using hc)⟩
  exact .i (.i (.i (.i (.s (.o o1 (.i (.i (.i (.i (.i (.i .nil)))))))))))
end Go.Proofs.YtccjhmhkfnnmaaaGreat
namespace Go.Proofs.YtccjhmhkfnnmaaaGreat
open Go.AM
variable {Γ:bY}
theorem PM(β:Bool)(x:aI)(en:Int)(H:AH){k:Nat}(hk:b7 H k=some (0,[.int .i64 en])):T Tryz.prog Γ Fn.RE [.agg (x.c β),.gp k 0 0] H fun v h'=>v=.bool (x.entity == en)∧h'=H:=by
  refine Rr (au aC aD [] _ _ _ ?_)
  unfold IB
  have hc:∀(e:List AV) (l:List (List AV)) (off n:Nat),(St.mk e l H).cells (.gp k 0 off) n=sub [.int .i64 en] off n:=fun e l off n=>bp hk
  simp only[EZ,ag,Nat.reduceAdd,Nat.reduceBEq,Gp,aI.c,hc]
  first|exact⟨rfl,rfl⟩|exact rfl
theorem Mx(β:Bool)(l:aB)(hl:l.exports.length≤1048576)(en:Int)(H:AH){p:AV}(hp:Ptr H p (l.c β)):
    T Tryz.prog Γ Fn.RC [p,.int .i64 en] H fun v h'=>v=.int .i64 (gE (fun x:aI=>x.entity == en) l.exports)∧h'=H:=by
  refine(?_:T Tryz.prog Γ Fn.RC _ H fun v h'=>v=.int .i64 (gE (fun x:aI=>x.entity == en) l.exports)∧∃N,h'=H++N).drop (by rintro v h' ⟨rfl,N,rfl⟩;exact⟨N,rfl,.int _ _,rfl,rfl⟩)
  refine Np (au aC aD [3] _ _ _ ?_)
  unfold J2
  have hp':∀N,Ptr (H++N) p (l.c β):=fun N=>hp.grow N
  simp only[EZ,ag,Nat.reduceAdd,Nat.reduceBEq,Ev,tN _ _ (show List.all [AV.int .i64 en] bj=true from rfl),i6,hp.nil,hp.fld,(hp' [some (0,[.int .i64 en])]).rd,aB.iU,Nat.reduceLeDiff,aB.c]
  have hcall:=j6 (P:=Tryz.prog) (Γ:=Γ) aC aD (sz:=3) (agg:=true) (fun hw=>N4 hw) (β:=β) (l:=l.exports) (c:=aI.c β) (by omega) (fun x=>⟨⟨rfl,.inl rfl⟩,rfl⟩) (g:=Fn.RE) (first:=[]) (caps:=[.gp H.length 0 0]) rfl (fun x:aI=>x.entity == en) (h:=H++[some (0,[.int .i64 en])]) (fun x hx=>PM β x en _ (cW _ _))
  refine al.val (by simp only[EO]) hcall ?_
  simp only[EZ,ag,Nat.reduceAdd,Nat.reduceBEq,Ev]
  exact⟨rfl,_,rfl⟩
def eO(l:aB)(e:Int):aB×Int:=
  if 0≤gE (fun x:aI=>x.entity == e) l.exports then
    (let k:=(gE (fun x:aI=>x.entity == e) l.exports).toNat
     ({ l with exports:=l.exports.set k { l.exports.getD k default with count:=IntKind.i64.wrap ((l.exports.getD k default).count+1) } },(l.exports.getD k default).pos))
  else ({ l with next:=IntKind.i64.wrap (l.next+1),exports:=l.exports++[⟨IntKind.i64.wrap (l.next+1),e,1⟩] },IntKind.i64.wrap (l.next+1))
theorem yd{l:aB}{e:Int}{k:Nat}(hk:k<l.exports.length)(h:gE (fun x:aI=>x.entity == e) l.exports=(k:Int)):
    eO l e=({ l with exports:=l.exports.set k { l.exports[k]with count:=IntKind.i64.wrap (l.exports[k].count+1) } },l.exports[k].pos):=by
  unfold eO
  rw[h,if_pos (by omega)]
  simp[List.getD_eq_getElem?_getD,hk]
theorem sE{l:aB}{e:Int}(h:gE (fun x:aI=>x.entity == e) l.exports = -1):
    eO l e=({ l with next:=IntKind.i64.wrap (l.next+1),exports:=l.exports++[⟨IntKind.i64.wrap (l.next+1),e,1⟩] },IntKind.i64.wrap (l.next+1)):=by
  unfold eO;rw[h,if_neg (by omega)]
theorem Bc{H:AH}{w:AV}{sz:Nat}{xs:List (List CD)}{fp:List Nat}(o:b6 H w (.sl sz xs) fp)(nd:fp.Nodup){k:Nat}(hk:k<xs.length){b g:Nat}(hi:dV sz w (k:Int)=some (.gp b g (k*sz))):
    ∃az f,(∀(e:List AV) (L:List (List AV)),(St.mk e L H).cells (.gp b g (k*sz)) sz=some az)∧
      (∀(e:List AV) (L:List (List AV)) (off n:Nat),off+n≤sz→(St.mk e L H).cells (.gp b g (k*sz+off)) n=sub az off n)∧aG H az xs[k] f∧f.Nodup∧(∀c∈f,c∈fp)∧az.length=sz:=by
  obtain⟨b',g',az,f,e1,_,_,e2,e3,e4,e5,e6,e7⟩:=o.row nd hk
  have:=hi.symm.trans e1
  simp only[Option.some.injEq,AV.gp.injEq]at this
  obtain⟨rfl,rfl,_⟩:=this
  exact⟨az,f,e2,e3,e4,e5,e6,e7⟩
theorem dT{H:AH}{row:List AV}{l:aB}{f:List Nat}(o:aG H row l.cd f):∃wX w4 w6 fX f4 f6,row=[.int .i64 l.peer,.bool l.up,wX,.int .i64 l.next,w4,.int .i64 l.asked,w6]∧f=fX++(f4++f6)∧b6 H wX (.sl 3 (l.exports.map aI.cd)) fX∧b6 H w4 (.sl 2 (l.questions.map aP.cd)) f4∧b6 H w6 (.sl 2 (l.answers.map aP.cd)) f6:=by
  simp only[aB.cd,fW,fN,gB,iH,iv]at o
  obtain⟨_,_,_,_,rfl,rfl,⟨rfl,rfl⟩,⟨_,_,_,_,rfl,rfl,⟨rfl,rfl⟩,⟨wX,_,fX,_,rfl,rfl,oX,⟨_,_,_,_,rfl,rfl,⟨rfl,rfl⟩,⟨w4,_,f4,_,rfl,rfl,o4,⟨_,_,_,_,rfl,rfl,⟨rfl,rfl⟩,⟨w6,_,f6,_,rfl,rfl,o6,⟨rfl,rfl⟩⟩⟩⟩⟩⟩⟩⟩:=o
  exact⟨wX,w4,w6,fX,f4,f6,rfl,by simp,oX,o4,o6⟩
theorem kO{H:AH}{l:aB}{wX w4 w6:AV}{fX f4 f6:List Nat}(oX:b6 H wX (.sl 3 (l.exports.map aI.cd)) fX)(o4:b6 H w4 (.sl 2 (l.questions.map aP.cd)) f4)(o6:b6 H w6 (.sl 2 (l.answers.map aP.cd)) f6):
    aG H [.int .i64 l.peer,.bool l.up,wX,.int .i64 l.next,w4,.int .i64 l.asked,w6] l.cd (fX++(f4++f6)):=by
  have e:f6=f6++[]:=by simp
  rw[e]
  exact .i (.b (.o oX (.i (.o o4 (.i (.o o6 .nil))))))
set_option maxHeartbeats 1000000 in
theorem M8(l:aB)(hl:l.exports.length≤1048576)(en:Int)(H:AH){b g:Nat}{pre row post:List AV}{f:List Nat}(m:kC H b g pre row post)(o:aG H row l.cd f)(nd:f.Nodup)(hb:b∉f):
    T Tryz.prog Γ Fn.RG [.gp b g pre.length,.int .i64 en] H fun v h'=>v=.int .i64 (eO l en).2∧H.length≤h'.length∧∃row' f',kC h' b g pre row' post∧aG h' row' (eO l en).1.cd f'∧f'.Nodup∧(∀c∈f',c∈f∨H.length≤c)∧(∀c,c∉f→c≠b→c<H.length→h'[c]? = H[c]?):=by
  have sn:=m.snap (aG.fV (aB.cu true _) o)
  have bl:=m.lt
  obtain⟨wX,w4,w6,fX,f4,f6,rfl,rfl,oX,o4,o6⟩:=dT o
  obtain⟨nX,n46,dX⟩:=List.nodup_append.1 nd
  have f0':∀o':Nat,kA 0 (.gp b g o')=some (.gp b g o'):=fun _=>rfl
  have f2':kA 2 (.gp b g pre.length)=some (.gp b g (pre.length+2)):=rfl
  have f3':kA 3 (.gp b g pre.length)=some (.gp b g (pre.length+3)):=rfl
  have m2:∀(e:List AV) (L:List (List AV)),(St.mk e L H).cells (.gp b g (pre.length+2)) 1=some [wX]:=fun e L=>m.cells e L 2 1 (by simp)
  have m3:∀(e:List AV) (L:List (List AV)),(St.mk e L H).cells (.gp b g (pre.length+3)) 1=some [.int .i64 l.next]:=fun e L=>m.cells e L 3 1 (by simp)
  refine Pu (au aC aD [] _ _ _ ?_)
  unfold Jx
  simp only[EZ,ag,Nat.reduceAdd,Nat.reduceBEq,zG,pQ]
  refine al.fV (by simp only[EO]) (aK sn (aK (.same _) b8)) (fun h=>Mx true l hl en h (Ptr.ip h true _)) (.int _ _) ?_
  obtain⟨cX1,cX2,cX3,cX4⟩:=oX.cell
  rcases jS (fun x:aI=>x.entity == en) l.exports with⟨k,hk,e1,e2,e3⟩|⟨e1,e2,e3⟩
  · have pe:=yd hk e1
    have hkm:k<(l.exports.map aI.cd).length:=by simpa using hk
    obtain⟨bX,gX,a,fa,i0,blX,bmX,rd,oa,na,ma,ba,st⟩:=oX.lens nX hkm (off:=2) (by omega) (by simp[aI.cd])
    simp only[List.getElem_map,aI.cd,List.getElem_cons_succ,List.getElem_cons_zero,gB]at oa
    obtain⟨rfl,rfl⟩:=oa
    obtain⟨H2,fp2,s1,o2,n2,mm2,l2,r2⟩:=st H (.int .i64 (IntKind.i64.wrap (l.exports[k].count+1))) (.i .i64 (IntKind.i64.wrap (l.exports[k].count+1))) [] (.i _ _) (by simp) (by simp) (fun _ _ _=>rfl)
    have bne:bX≠b:=fun e=>hb (by rw[←e];simp[bmX])
    have mH:=m.frame (r2 b (Ne.symm bne))
    have m2':∀(e:List AV) (L:List (List AV)),(St.mk e L H2).cells (.gp b g (pre.length+2)) 1=some [wX]:=fun e L=>mH.cells e L 2 1 (by simp)
    have mfp:∀c∈fp2,c∈fX:=fun c hc=>(mm2 c hc).elim id (by simp)
    have hk2:k<((l.exports.map aI.cd).set k (((l.exports.map aI.cd)[k]).set 2 (.i .i64 (IntKind.i64.wrap (l.exports[k].count+1))))).length:=by simpa using hk
    obtain⟨az,fz,_,rz,oz,_,_,lz⟩:=Bc o2 n2 hk2 i0
    have oo:=oz
    simp only[List.getElem_set_self,List.getElem_map,aI.cd,List.set_cons_succ,List.set_cons_zero,fW,fN,gB]at oo
    obtain⟨_,_,_,_,ez,_,⟨rfl,rfl⟩,_⟩:=oo
    subst ez
    have rp:∀(e:List AV) (L:List (List AV)),(St.mk e L H2).cells (.gp bX gX (k*3)) 1=some [.int .i64 l.exports[k].pos]:=fun e L=>by
      have:=rz e L 0 1 (by omega);rw[Nat.add_zero]at this;rw[this];simp[sub]
    have fX2:kA 2 (.gp bX gX (k*3))=some (.gp bX gX (k*3+2)):=rfl
    have fX0:kA 0 (.gp bX gX (k*3))=some (.gp bX gX (k*3)):=rfl
    simp only[EZ,ag,Nat.reduceAdd,Nat.reduceBEq,zG,pQ,e1,decide_eq_true (show(k:Int)≥0 by omega),f2',m2,i0,fX2,fX0,rd,s1,m2',rp]
    have key:(((l.exports.map aI.cd).set k (((l.exports.map aI.cd)[k]).set 2 (.i .i64 (IntKind.i64.wrap (l.exports[k].count+1))))))=(eO l en).1.exports.map aI.cd:=by
      rw[pe,List.map_set];simp[aI.cd]
    rw[key]at o2
    refine⟨rfl,by rw[pe],by omega,_,fp2++(f4++f6),mH,?_,List.nodup_append.2 ⟨n2,n46,fun x hx y hy=>dX x (mfp x hx) y hy⟩,fun c hc=>?_,fun c hc hcb hcl=>r2 c (fun e=>hc (by rw[e];simp[bmX]))⟩
    · have o4':=o4.frame (h':=H2) fun c hc=>r2 c (fun e=>dX bX bmX c (by simp[hc]) e.symm)
      have o6':=o6.frame (h':=H2) fun c hc=>r2 c (fun e=>dX bX bmX c (by simp[hc]) e.symm)
      have:=kO (l:=(eO l en).1) o2 (by rw[pe];exact o4') (by rw[pe];exact o6')
      rw[pe]at this ⊢
      exact this
    · rcases List.mem_append.1 hc with g|g
      · exact .inl (List.mem_append_left _ (mfp c g))
      · exact .inl (List.mem_append_right _ g)
  · have pe:=sE (l:=l) (e:=en) e1
    obtain⟨H1,s1,m1,l1,r1⟩:=m.store (i:=3) (vs:=[.int .i64 (IntKind.i64.wrap (l.next+1))]) (by simp) rfl
    have ov:cD [.int .i64 l.peer,.bool l.up,wX,.int .i64 l.next,w4,.int .i64 l.asked,w6] 3 [.int .i64 (IntKind.i64.wrap (l.next+1))]=[.int .i64 l.peer,.bool l.up,wX,.int .i64 (IntKind.i64.wrap (l.next+1)),w4,.int .i64 l.asked,w6]:=rfl
    rw[ov]at m1
    have oX1:=oX.frame (h':=H1) fun c hc=>r1 c (fun e=>hb (by rw[←e];simp[hc]))
    have q2:∀(e:List AV) (L:List (List AV)),(St.mk e L H1).cells (.gp b g (pre.length+2)) 1=some [wX]:=fun e L=>m1.cells e L 2 1 (by simp)
    have q3:∀(e:List AV) (L:List (List AV)),(St.mk e L H1).cells (.gp b g (pre.length+3)) 1=some [.int .i64 (IntKind.i64.wrap (l.next+1))]:=fun e L=>m1.cells e L 3 1 (by simp)
    obtain⟨v',H',fp',ea,o',nd',hf',hl',hm'⟩:=cY (bytes:=24) oX1 (ys:=[.int .i64 (IntKind.i64.wrap (l.next+1)),.int .i64 en,.int .i64 1]) (row:=[.i .i64 (IntKind.i64.wrap (l.next+1)),.i .i64 en,.i .i64 1]) (f2:=[]) (by simpa using nX) (by omega) rfl (.i (.i (.i .nil))) (by simp only[List.length_map,aQ];omega)
    obtain⟨cv1,cv2,cv3,cv4⟩:=o'.cell
    have mH:=m1.frame (hf' b (fun h=>hb (by simp[h])) (by omega))
    have hbv:b∉fp':=fun h=>by
      rcases hm' b h with g|g|g
      · exact hb (by simp[g])
      · simp at g
      · omega
    obtain⟨H3,s3,m3',l3,r3⟩:=mH.store (i:=2) (vs:=[v']) (by simp) (by simp only[i5,iY,cv3,Bool.and_self])
    have Lt:cD [.int .i64 l.peer,.bool l.up,wX,.int .i64 (IntKind.i64.wrap (l.next+1)),w4,.int .i64 l.asked,w6] 2 [v']=[.int .i64 l.peer,.bool l.up,v',.int .i64 (IntKind.i64.wrap (l.next+1)),w4,.int .i64 l.asked,w6]:=rfl
    rw[Lt]at m3'
    have q4:∀(e:List AV) (L:List (List AV)),(St.mk e L H3).cells (.gp b g (pre.length+3)) 1=some [.int .i64 (IntKind.i64.wrap (l.next+1))]:=fun e L=>m3'.cells e L 3 1 (by simp)
    simp only[EZ,ag,Nat.reduceAdd,Nat.reduceBEq,zG,pQ,EA,e1,show decide ((-1:Int)≥0)=false from rfl,f2',f3',m3,s1,q2,q3,gZ,qH,qO,qh]
    simp only[EZ,ag,Nat.reduceAdd,Nat.reduceBEq,zG,pQ,EA,ea,s3,q4,cv1,cv2,cv3]
    have ap:∀c∈f4++f6,H3[c]? = H[c]?:=fun c hc=>by
      have h1:c<H.length:=by
        rcases List.mem_append.1 hc with g|g
        · exact o4.lt c g
        · exact o6.lt c g
      have h2:c≠b:=fun e=>hb (by rw[←e];exact List.mem_append_right _ hc)
      rw[r3 c h2,hf' c (fun h=>dX c h c hc rfl) (by omega),r1 c h2]
    have o4':=o4.frame (h':=H3) fun c hc=>ap c (by simp[hc])
    have o6':=o6.frame (h':=H3) fun c hc=>ap c (by simp[hc])
    have oX3:=o'.frame (h':=H3) fun c hc=>r3 c (fun e=>hbv (by rw[←e];exact hc))
    refine⟨rfl,by rw[pe],by omega,_,fp'++(f4++f6),m3',?_,List.nodup_append.2 ⟨nd',n46,fun x hx y hy e=>?_⟩,fun c hc=>?_,fun c hc hcb hcl=>?_⟩
    · rw[pe]
      exact kO (l:={ l with next:=IntKind.i64.wrap (l.next+1),exports:=l.exports++[⟨IntKind.i64.wrap (l.next+1),en,1⟩] }) (by simpa[aI.cd]using oX3) o4' o6'
    · subst e
      rcases hm' x hx with g|g|g
      · exact dX x g x hy rfl
      · simp at g
      · rcases List.mem_append.1 hy with q|q
        · have:=o4.lt x q;omega
        · have:=o6.lt x q;omega
    · rcases List.mem_append.1 hc with g|g
      · rcases hm' c g with q|q|q
        · exact .inl (List.mem_append_left _ q)
        · simp at q
        · exact .inr (by omega)
      · exact .inl (List.mem_append_right _ g)
    · rw[r3 c hcb,hf' c (fun h=>hc (List.mem_append_left _ h)) (by omega),r1 c hcb]
end Go.Proofs.YtccjhmhkfnnmaaaGreat
namespace Go.Proofs.YtccjhmhkfnnmaaaGreat
open Go.AM
variable {Γ:bY}
set_option maxHeartbeats 1000000 in
theorem E7(β:Bool)(l:aB)(hl:l.ok 1048576)(en:Int)(h:AH):T Tryz.prog Γ Fn.KV [.agg (l.c β),.int .i64 en] h (aV h [.a (eO l en).1.cd,.c (.i .i64 (eO l en).2)]):=by
  have hle:=hl.1
  have L0:=di β 3 false l.exports (aI.c β)
  refine T.pT rfl ?_
  refine Pn (au aC aD [] _ _ _ ?_)
  unfold HQ
  simp only[EZ,ag,Nat.reduceAdd,Nat.reduceBEq,rA,jK,jH,jU,aE,ER,aB.c]
  refine al.ref (by simp only[EO]) (Ey β l hl _) ?_
  rintro _ H1 fr
  replace fr:aV h _ _ _:=fr
  obtain⟨aw,fw,rfl,ow,nw,bw,ew⟩:=fr.a1
  obtain⟨wX,w4,w6,fX,f4,f6,rfl,rfl,oX,o4,o6⟩:=dT ow
  obtain⟨nX,n46,dX⟩:=List.nodup_append.1 nw
  obtain⟨a1,a2,a3,a4⟩:=oX.cell
  obtain⟨b1,b2,b3,b4⟩:=o4.cell
  obtain⟨c1,c2,c3,c4⟩:=o6.cell
  obtain⟨N1,hN1⟩:=ew.out
  simp only[EZ,ag,Nat.reduceAdd,Nat.reduceBEq,rA,jK,jH,jU,aE,ER,aB.c,a1,a2,a3,b1,b2,b3,c1,c2,c3]
  refine et aC aD [] (fun k:Nat=>k≤l.exports.length∧∀(i:Nat) (hi:i<l.exports.length),i<k→(l.exports[i].entity == en)=false) (fun k=>l.exports.length-k)
    (fun k=>yT (.int .i64 en) (.lp ([]:List (List AV)).length 0) (.lp (([]:List (List AV)).length+1) 0) (.lp (([]:List (List AV)).length+2) 0) (.int .i64 k) (([]:List (List AV))++[l.c β,[.int .i64 0,.bool false,.nils,.int .i64 0,.nils,.int .i64 0,.nils],[.int .i64 l.peer,.bool l.up,wX,.int .i64 l.next,w4,.int .i64 l.asked,w6]]) H1) 0 ⟨by omega,fun i hi h=>by omega⟩ ⟨by simp[yT,fY,fO],rfl,rfl⟩ ?_
  rintro k ⟨hk,ht⟩
  simp only[EZ,ag,Nat.reduceAdd,Nat.reduceBEq,rA,jK,jH,jU,yT,aE,ER,aB.c,L0]
  refine bP (fun hlt=>?_) (fun hge=>?_)
  · have hlt:k<l.exports.length:=by simpa using hlt
    have i0:=dU (β:=β) (sz:=3) (ex:=false) (ce:=aI.c β) hlt
    cases hp:l.exports[k].entity == en
    · simp only[EZ,ag,Nat.reduceAdd,Nat.reduceBEq,rA,jK,jH,jU,aE,ER,i0,aI.c,hp]
      exact⟨k+1,⟨hlt,sC (P:=fun x:aI=>(x.entity == en)=false) ht hp⟩,by omega,⟨by rw[wN (by omega)];simp[yT,aB.c,fY,fO],rfl,rfl⟩⟩
    · have pe:=yd hlt (xG (p:=fun x:aI=>x.entity == en) hlt ht hp)
      have hkm:k<(l.exports.map aI.cd).length:=by simpa using hlt
      obtain⟨bX,gX,a,fa,i1,blX,bmX,rd,oa,na,ma,ba,st⟩:=oX.lens nX hkm (off:=2) (by omega) (by simp[aI.cd])
      simp only[List.getElem_map,aI.cd,List.getElem_cons_succ,List.getElem_cons_zero,gB]at oa
      obtain⟨rfl,rfl⟩:=oa
      obtain⟨H2,fp2,s1,o2,n2,mm2,l2,r2⟩:=st H1 (.int .i64 (IntKind.i64.wrap (l.exports[k].count+1))) (.i .i64 (IntKind.i64.wrap (l.exports[k].count+1))) [] (.i _ _) (by simp) (by simp) (fun _ _ _=>rfl)
      have mfp:∀c∈fp2,c∈fX:=fun c hc=>(mm2 c hc).elim id (by simp)
      have fX2:kA 2 (.gp bX gX (k*3))=some (.gp bX gX (k*3+2)):=rfl
      simp only[EZ,ag,Nat.reduceAdd,Nat.reduceBEq,rA,jK,jH,jU,aE,ER,i0,aI.c,hp,i1,fX2,s1]
      simp only[EZ,ag,Nat.reduceAdd,Nat.reduceBEq,rA,jK,jH,jU,aE,ER,i0,aI.c,a1,a2,a3,b1,b2,b3,c1,c2,c3]
      have key:(((l.exports.map aI.cd).set k (((l.exports.map aI.cd)[k]).set 2 (.i .i64 (IntKind.i64.wrap (l.exports[k].count+1))))))=(eO l en).1.exports.map aI.cd:=by
        rw[pe,List.map_set];simp[aI.cd]
      rw[key]at o2
      have o4':=o4.frame (h':=H2) fun c hc=>r2 c (fun e=>dX bX bmX c (by simp[hc]) e.symm)
      have o6':=o6.frame (h':=H2) fun c hc=>r2 c (fun e=>dX bX bmX c (by simp[hc]) e.symm)
      have own:=kO (l:=(eO l en).1) o2 (by rw[pe];exact o4') (by rw[pe];exact o6')
      have hx:=ew.yZ (show H1.length≤H2.length by omega) (fun c hc _=>r2 c (fun e=>hc (by rw[e];exact bmX))) (fun c hc=>bw c (List.mem_append_left _ hc))
      obtain⟨N,hN⟩:=hx.out
      refine⟨yJ 1 rfl,by simp only[List.all_cons,List.all_nil,EO,a3,b3,c3],_,N,fp2++(f4++f6),by rw[pe,CD.gI],hN,by rw[pe]at own ⊢;exact own,List.nodup_append.2 ⟨n2,n46,fun x hx y hy=>dX x (mfp x hx) y hy⟩,fun c hc=>?_⟩
      rcases List.mem_append.1 hc with g|g
      · exact bw c (List.mem_append_left _ (mfp c g))
      · exact bw c (List.mem_append_right _ g)
  have hge:k=l.exports.length:=by simp at hge;omega
  subst hge
  have pe:=sE (l:=l) (e:=en) (rr (p:=fun x:aI=>x.entity == en) fun i hi=>ht i hi hi)
  obtain⟨v',H',fp',ea,o',nd',hf',hl',hm'⟩:=cY (bytes:=24) oX (ys:=[.int .i64 (IntKind.i64.wrap (l.next+1)),.int .i64 en,.int .i64 1]) (row:=[.i .i64 (IntKind.i64.wrap (l.next+1)),.i .i64 en,.i .i64 1]) (f2:=[]) (by simpa using nX) (by omega) rfl (.i (.i (.i .nil))) (by simp only[List.length_map,aQ];omega)
  obtain⟨e1,e2,e3,e4⟩:=o'.cell
  simp only[EZ,ag,Nat.reduceAdd,Nat.reduceBEq,rA,jK,jH,jU,EA,aE,ER,gZ,qH,qO,qh,ea,a1,a2,a3,b1,b2,b3,c1,c2,c3,e1,e2,e3]
  have ap:∀c∈f4++f6,H'[c]? = H1[c]?:=fun c hc=>hf' c (fun h=>dX c h c hc rfl) (by
    rcases List.mem_append.1 hc with g|g
    · exact o4.lt c g
    · exact o6.lt c g)
  have o4':=o4.frame (h':=H') fun c hc=>ap c (by simp[hc])
  have o6':=o6.frame (h':=H') fun c hc=>ap c (by simp[hc])
  have hx:=ew.yZ hl' hf' (fun c hc=>bw c (List.mem_append_left _ hc))
  obtain⟨N,hN⟩:=hx.out
  have el:=ew.len
  refine⟨yJ 1 rfl,by simp only[List.all_cons,List.all_nil,EO,e3,b3,c3],_,N,fp'++(f4++f6),by rw[pe,CD.gI],hN,?_,List.nodup_append.2 ⟨nd',n46,fun x hx y hy e=>?_⟩,fun c hc=>?_⟩
  · rw[pe]
    exact kO (l:={ l with next:=IntKind.i64.wrap (l.next+1),exports:=l.exports++[⟨IntKind.i64.wrap (l.next+1),en,1⟩] }) (by simpa[aI.cd]using o') o4' o6'
  · subst e
    rcases hm' x hx with g|g|g
    · exact dX x g x hy rfl
    · simp at g
    · rcases List.mem_append.1 hy with q|q
      · have:=o4.lt x q;omega
      · have:=o6.lt x q;omega
  · rcases List.mem_append.1 hc with g|g
    · rcases hm' c g with q|q|q
      · exact bw c (List.mem_append_left _ q)
      · simp at q
      · omega
    · exact bw c (List.mem_append_right _ g)
end Go.Proofs.YtccjhmhkfnnmaaaGreat
namespace Go.Proofs.YtccjhmhkfnnmaaaGreat
open Go.AM
variable {Γ:bY}
end Go.Proofs.YtccjhmhkfnnmaaaGreat
namespace Go.Proofs.YtccjhmhkfnnmaaaGreat
open Go.AM
variable {Γ:bY}
def zL:List AV:=[.int .i64 0,.bool false,.nils,.int .i64 0,.nils,.int .i64 0,.nils]
def g7(l:aB)(p:Int):aB×Int:=({ l with asked:=IntKind.i64.wrap (l.asked+1),questions:=l.questions++[⟨IntKind.i64.wrap (l.asked+1),p⟩] },IntKind.i64.wrap (l.asked+1))
set_option maxHeartbeats 1000000 in
theorem P6(l:aB)(hl:l.questions.length≤1048576)(en:Int)(H:AH){b g:Nat}{pre row post:List AV}{f:List Nat}(m:kC H b g pre row post)(o:aG H row l.cd f)(nd:f.Nodup)(hb:b∉f):
    T Tryz.prog Γ Fn.RX [.gp b g pre.length,.int .i64 en] H fun v h'=>v=.int .i64 (g7 l en).2∧H.length≤h'.length∧∃row' f',kC h' b g pre row' post∧aG h' row' (g7 l en).1.cd f'∧f'.Nodup∧(∀c∈f',c∈f∨H.length≤c)∧(∀c,c∉f→c≠b→c<H.length→h'[c]? = H[c]?):=by
  have bl:=m.lt
  obtain⟨wX,w4,w6,fX,f4,f6,rfl,rfl,oX,o4,o6⟩:=dT o
  obtain⟨nX,n46,dX⟩:=List.nodup_append.1 nd
  obtain⟨n4,n6,d46⟩:=List.nodup_append.1 n46
  have f4':kA 4 (.gp b g pre.length)=some (.gp b g (pre.length+4)):=rfl
  have f5':kA 5 (.gp b g pre.length)=some (.gp b g (pre.length+5)):=rfl
  have m5:∀(e:List AV) (L:List (List AV)),(St.mk e L H).cells (.gp b g (pre.length+5)) 1=some [.int .i64 l.asked]:=fun e L=>m.cells e L 5 1 (by simp)
  obtain⟨H1,s1,m1,l1,r1⟩:=m.store (i:=5) (vs:=[.int .i64 (IntKind.i64.wrap (l.asked+1))]) (by simp) rfl
  have ov:cD [.int .i64 l.peer,.bool l.up,wX,.int .i64 l.next,w4,.int .i64 l.asked,w6] 5 [.int .i64 (IntKind.i64.wrap (l.asked+1))]=[.int .i64 l.peer,.bool l.up,wX,.int .i64 l.next,w4,.int .i64 (IntKind.i64.wrap (l.asked+1)),w6]:=rfl
  rw[ov]at m1
  have o41:=o4.frame (h':=H1) fun c hc=>r1 c (fun e=>hb (by rw[←e];simp[hc]))
  have q4:∀(e:List AV) (L:List (List AV)),(St.mk e L H1).cells (.gp b g (pre.length+4)) 1=some [w4]:=fun e L=>m1.cells e L 4 1 (by simp)
  have q5:∀(e:List AV) (L:List (List AV)),(St.mk e L H1).cells (.gp b g (pre.length+5)) 1=some [.int .i64 (IntKind.i64.wrap (l.asked+1))]:=fun e L=>m1.cells e L 5 1 (by simp)
  obtain⟨v',H',fp',ea,o',nd',hf',hl',hm'⟩:=cY (bytes:=16) o41 (ys:=[.int .i64 (IntKind.i64.wrap (l.asked+1)),.int .i64 en]) (row:=[.i .i64 (IntKind.i64.wrap (l.asked+1)),.i .i64 en]) (f2:=[]) (by simpa using n4) (by omega) rfl (.i (.i .nil)) (by simp only[List.length_map,aQ];omega)
  obtain⟨cv1,cv2,cv3,cv4⟩:=o'.cell
  obtain⟨c41,c42,c43,c44⟩:=o4.cell
  have mH:=m1.frame (hf' b (fun h=>hb (by simp[h])) (by omega))
  have hbv:b∉fp':=fun h=>by
    rcases hm' b h with g|g|g
    · exact hb (by simp[g])
    · simp at g
    · omega
  obtain⟨H3,s3,m3',l3,r3⟩:=mH.store (i:=4) (vs:=[v']) (by simp) (by simp only[i5,iY,cv3,Bool.and_self])
  have Lt:cD [.int .i64 l.peer,.bool l.up,wX,.int .i64 l.next,w4,.int .i64 (IntKind.i64.wrap (l.asked+1)),w6] 4 [v']=[.int .i64 l.peer,.bool l.up,wX,.int .i64 l.next,v',.int .i64 (IntKind.i64.wrap (l.asked+1)),w6]:=rfl
  rw[Lt]at m3'
  have q6:∀(e:List AV) (L:List (List AV)),(St.mk e L H3).cells (.gp b g (pre.length+5)) 1=some [.int .i64 (IntKind.i64.wrap (l.asked+1))]:=fun e L=>m3'.cells e L 5 1 (by simp)
  refine Mq (au aC aD [] _ _ _ ?_)
  unfold IC
  simp only[EZ,ag,Nat.reduceAdd,Nat.reduceBEq,Dk,zj,EA,f4',f5',m5,s1,q4,q5,gZ,qH,qO,qh,c41,c42,c43]
  simp only[EZ,ag,Nat.reduceAdd,Nat.reduceBEq,Dk,zj,EA,ea,s3,q6,cv1,cv2,cv3]
  have ap:∀c∈fX++f6,H3[c]? = H[c]?:=fun c hc=>by
    have h1:c<H.length:=by
      rcases List.mem_append.1 hc with g|g
      · exact oX.lt c g
      · exact o6.lt c g
    have h4:c∉f4:=fun h4=>by
      rcases List.mem_append.1 hc with g|g
      · exact dX c g c (by simp[h4]) rfl
      · exact d46 c h4 c g rfl
    have h2:c≠b:=fun e=>hb (by
      rw[←e]
      rcases List.mem_append.1 hc with g|g
      · simp[g]
      · simp[g])
    rw[r3 c h2,hf' c h4 (by omega),r1 c h2]
  have oX':=oX.frame (h':=H3) fun c hc=>ap c (by simp[hc])
  have o6':=o6.frame (h':=H3) fun c hc=>ap c (by simp[hc])
  have o43:=o'.frame (h':=H3) fun c hc=>r3 c (fun e=>hbv (by rw[←e];exact hc))
  refine⟨rfl,rfl,by omega,_,fX++(fp'++f6),m3',?_,List.nodup_append.2 ⟨nX,List.nodup_append.2 ⟨nd',n6,fun x hx y hy e=>?_⟩,fun x hx y hy e=>?_⟩,fun c hc=>?_,fun c hc hcb hcl=>?_⟩
  · exact kO (l:=(g7 l en).1) oX' (by simpa[g7,aP.cd]using o43) o6'
  · subst e
    rcases hm' x hx with g|g|g
    · exact d46 x g x hy rfl
    · simp at g
    · have:=o6.lt x hy;omega
  · subst e
    rcases List.mem_append.1 hy with q|q
    · rcases hm' x q with g|g|g
      · exact dX x hx x (by simp[g]) rfl
      · simp at g
      · have:=oX.lt x hx;omega
    · exact dX x hx x (by simp[q]) rfl
  · simp only[List.mem_append]at hc ⊢
    rcases hc with q|q|q
    · exact .inl (.inl q)
    · rcases hm' c q with g|g|g
      · exact .inl (.inr (.inl g))
      · simp at g
      · exact .inr (by omega)
    · exact .inl (.inr (.inr q))
  · rw[r3 c hcb,hf' c (fun h=>hc (by simp[h])) (by omega),r1 c hcb]
end Go.Proofs.YtccjhmhkfnnmaaaGreat
namespace Go.Proofs.YtccjhmhkfnnmaaaGreat
open Go.AM
variable {Γ:bY}
set_option maxHeartbeats 1000000 in
theorem Kw(β:Bool)(l:aB)(hl:l.ok 1048576)(en:Int)(h:AH):T Tryz.prog Γ Fn.Ls [.agg (l.c β),.int .i64 en] h (aV h [.a (g7 l en).1.cd,.c (.i .i64 (g7 l en).2)]):=by
  refine T.pT rfl ?_
  refine MW (au aC aD [] _ _ _ ?_)
  unfold Js
  simp only[EZ,ag,Nat.reduceAdd,Nat.reduceBEq,E4,zg,aE,ER,aB.c]
  refine al.ref (by simp only[EO]) (Ey β l hl _) ?_
  rintro _ H1 fr
  replace fr:aV h _ _ _:=fr
  obtain⟨aw,fw,rfl,ow,nw,bw,ew⟩:=fr.a1
  obtain⟨wX,w4,w6,fX,f4,f6,rfl,rfl,oX,o4,o6⟩:=dT ow
  obtain⟨nX,n46,dX⟩:=List.nodup_append.1 nw
  obtain⟨n4,n6,d46⟩:=List.nodup_append.1 n46
  obtain⟨a1,a2,a3,a4⟩:=oX.cell
  obtain⟨b1,b2,b3,b4⟩:=o4.cell
  obtain⟨c1,c2,c3,c4⟩:=o6.cell
  have hl2:=hl.2.1
  obtain⟨v',H',fp',ea,o',nd',hf',hl',hm'⟩:=cY (bytes:=16) o4 (ys:=[.int .i64 (IntKind.i64.wrap (l.asked+1)),.int .i64 en]) (row:=[.i .i64 (IntKind.i64.wrap (l.asked+1)),.i .i64 en]) (f2:=[]) (by simpa using n4) (by omega) rfl (.i (.i .nil)) (by simp only[List.length_map,aQ];omega)
  obtain⟨e1,e2,e3,e4⟩:=o'.cell
  simp only[EZ,ag,Nat.reduceAdd,Nat.reduceBEq,E4,zg,EA,aE,ER,aB.c,gZ,qH,qO,qh,a1,a2,a3,b1,b2,b3,c1,c2,c3,ea,e1,e2,e3]
  have ap:∀c∈fX++f6,H'[c]? = H1[c]?:=fun c hc=>hf' c (fun h4=>by
    rcases List.mem_append.1 hc with g|g
    · exact dX c g c (by simp[h4]) rfl
    · exact d46 c h4 c g rfl) (by
    rcases List.mem_append.1 hc with g|g
    · exact oX.lt c g
    · exact o6.lt c g)
  have oX':=oX.frame (h':=H') fun c hc=>ap c (by simp[hc])
  have o6':=o6.frame (h':=H') fun c hc=>ap c (by simp[hc])
  have hx:=ew.yZ hl' hf' (fun c hc=>bw c (by simp[hc]))
  obtain⟨N,hN⟩:=hx.out
  have el:=ew.len
  refine⟨yJ 1 rfl,by simp only[List.all_cons,List.all_nil,EO,a3,e3,c3],_,N,fX++(fp'++f6),by rw[CD.gI];rfl,hN,?_,List.nodup_append.2 ⟨nX,List.nodup_append.2 ⟨nd',n6,fun x hx y hy e=>?_⟩,fun x hx y hy e=>?_⟩,fun c hc=>?_⟩
  · exact kO (l:=(g7 l en).1) oX' (by simpa[g7,aP.cd]using o') o6'
  · subst e
    rcases hm' x hx with g|g|g
    · exact d46 x g x hy rfl
    · simp at g
    · have:=o6.lt x hy;omega
  · subst e
    rcases List.mem_append.1 hy with q|q
    · rcases hm' x q with g|g|g
      · exact dX x hx x (by simp[g]) rfl
      · simp at g
      · have:=oX.lt x hx;omega
    · exact dX x hx x (by simp[q]) rfl
  · simp only[List.mem_append]at hc
    rcases hc with q|q|q
    · exact bw c (by simp[q])
    · rcases hm' c q with g|g|g
      · exact bw c (by simp[g])
      · simp at g
      · omega
    · exact bw c (by simp[q])
def AQ(l:aB)(pos c:Int):aB:=
  if c<1 then l else if gE (fun x:aI=>x.pos == pos) l.exports<0 then l else
    (let k:=(gE (fun x:aI=>x.pos == pos) l.exports).toNat
     if IntKind.i64.wrap ((l.exports.getD k default).count-c)<1 then { l with exports:=l.exports.eraseIdx k }
     else { l with exports:=l.exports.set k { l.exports.getD k default with count:=IntKind.i64.wrap ((l.exports.getD k default).count-c) } })
theorem CK{l:aB}{pos c:Int}(h:c<1):AQ l pos c=l:=by unfold AQ;rw[if_pos h]
theorem CS{l:aB}{pos c:Int}(h:gE (fun x:aI=>x.pos == pos) l.exports = -1):AQ l pos c=l:=by unfold AQ;rw[h];split<;>rfl
theorem KF{l:aB}{pos c:Int}(hc:¬c<1){k:Nat}(hk:k<l.exports.length)(h:gE (fun x:aI=>x.pos == pos) l.exports=(k:Int)):
    AQ l pos c=if IntKind.i64.wrap (l.exports[k].count-c)<1 then { l with exports:=l.exports.eraseIdx k }else { l with exports:=l.exports.set k { l.exports[k]with count:=IntKind.i64.wrap (l.exports[k].count-c) } }:=by
  unfold AQ
  rw[if_neg hc,h,if_neg (by omega)]
  simp[List.getD_eq_getElem?_getD,hk]
end Go.Proofs.YtccjhmhkfnnmaaaGreat
namespace Go.Proofs.YtccjhmhkfnnmaaaGreat
open Go.AM
variable {Γ:bY}
theorem qd{H:AH}{cells:List AV}{v:ar}{f:List Nat}(o:aG H cells v.cd f):∃wE w2 wL w4 fE f2 fL f4,cells=[.int .i64 v.id,wE,w2,wL,w4]∧f=fE++(f2++(fL++f4))∧b6 H wE (.sl 12 (v.entities.map aq.cd)) fE∧b6 H w2 (.sl 7 (v.loop.map aM.cd)) f2∧b6 H wL (.sl 7 (v.links.map aB.cd)) fL∧b6 H w4 (.sl 13 (v.out.map aJ.cd)) f4:=by
  simp only[ar.cd,fW,fN,gB,iH,iv]at o
  obtain⟨_,_,_,_,rfl,rfl,⟨rfl,rfl⟩,⟨wE,_,fE,_,rfl,rfl,oE,⟨w2,_,f2,_,rfl,rfl,o2,⟨wL,_,fL,_,rfl,rfl,oL,⟨w4,_,f4,_,rfl,rfl,o4,⟨rfl,rfl⟩⟩⟩⟩⟩⟩:=o
  exact⟨wE,w2,wL,w4,fE,f2,fL,f4,rfl,by simp,oE,o2,oL,o4⟩
theorem M7(β:Bool)(x:aB)(peer:Int)(H:AH){p:AV}(hp:Ptr H p [.int .i64 peer]):T Tryz.prog Γ Fn.RI [.agg (x.c β),p] H fun v h'=>v=.bool (x.peer == peer && x.up)∧h'=H:=by
  have hc:∀(e:List AV) (l:List (List AV)),(St.mk e l H).cells p 1=some [.int .i64 peer]:=fun e l=>hp.rd0 e l 0 (by simp)
  refine NL (au aC aD [] _ _ _ ?_)
  unfold Iz
  cases hp:x.peer == peer
  · simp only[EZ,ag,Nat.reduceAdd,Nat.reduceBEq,D1,aB.c,hc,hp]
    first|exact⟨rfl,rfl⟩|exact rfl
  · simp only[EZ,ag,Nat.reduceAdd,Nat.reduceBEq,D1,aB.c,hc,hp]
    first|exact⟨rfl,rfl⟩|exact rfl
set_option maxHeartbeats 1000000 in
theorem xI(v:ar)(hv:v.links.length≤1048576)(peer:Int)(H:AH){b:Nat}{wE w2 wL w4:AV}{f:List Nat}(hb:b7 H b=some (0,[.int .i64 v.id,wE,w2,wL,w4]))(ow:aG H [.int .i64 v.id,wE,w2,wL,w4] v.cd f)(nd:f.Nodup):
    T Tryz.prog Γ Fn.Lx [.gp b 0 0,.int .i64 peer] H fun r h'=>(∃N,h'=H++N)∧((su v.links peer=true∧∃k:Nat,∃hk:k<v.links.length,gE (fun x:aB=>x.peer == peer) v.links=(k:Int)∧dV 7 wL (k:Int)=some r)∨(su v.links peer=false∧r=.nilp)):=by
  have hp0:Ptr H (.gp b 0 0) [.int .i64 v.id,wE,w2,wL,w4]:=Ptr.Sr hb
  have hp:Ptr (H++[some (0,[.int .i64 peer])]) (.gp b 0 0) [.int .i64 v.id,wE,w2,wL,w4]:=hp0.grow _
  have ow':=ow.grow (new:=[some (0,[AV.int .i64 peer])])
  obtain⟨_,_,_,_,fE,f2,fL,f4,e,rfl,oE,o2,oL,o4⟩:=qd ow'
  injection e with _ e;injection e with e1 e;injection e with e2 e;injection e with e3 e;injection e with e4 _
  subst e1 e2 e3 e4
  obtain⟨a1,a2,a3,a4⟩:=oE.cell
  obtain⟨b1,b2,b3,b4⟩:=o2.cell
  obtain⟨c1,c2,c3,c4⟩:=oL.cell
  obtain⟨d1,d2,d3,d4⟩:=o4.cell
  refine QG (au aC aD [3] _ _ _ ?_)
  unfold JT
  simp only[EZ,ag,Nat.reduceAdd,Nat.reduceBEq,xg,mq,tN _ _ (show List.all [AV.int .i64 peer] bj=true from rfl),i6,hp.nil,hp.fld,hp.rd,List.length_cons,List.length_nil,Nat.reduceLeDiff]
  refine al.fV (by simp only[EO,c4]) (aK (b6.fV (aB.cu true) oL) (aK (Gh (F7 (cW H (0,[AV.int .i64 peer])))) b8)) (fun h=>rZ (g:=Fn.RI) (caps:=[.ip true [.int .i64 peer]]) rfl rfl (fun x=>x.peer == peer && x.up) true v.links hv (fun x hx=>M7 true x peer _ (Ptr.ip h true _))) (.bool _) ?_
  simp only[EZ,ag,Nat.reduceAdd,Nat.reduceBEq,xg,mq,hp.nil,hp.fld,hp.rd,hp.rd0,List.length_cons,List.length_nil,Nat.reduceLeDiff,As]
  refine al.fV (by simp only[EO,a3,b3,c3,d3]) (aK (aG.fV (ar.cu true _) ow') (aK (.same _) b8)) (fun h=>Rt true v hv peer h) (.int _ _) ?_
  cases hu:su v.links peer
  · by_cases hi:gE (fun x:aB=>x.peer == peer) v.links≥0
    · simp only[EZ,ag,Nat.reduceAdd,Nat.reduceBEq,xg,mq,decide_eq_true hi,show(v.links.any fun x=>x.peer == peer && x.up)=false from hu]
      first|exact⟨rfl,⟨_,rfl⟩,.inr ⟨rfl,rfl⟩⟩|exact⟨rfl,⟨_,rfl⟩,.inr trivial⟩|simp
    · simp only[EZ,ag,Nat.reduceAdd,Nat.reduceBEq,xg,mq,decide_eq_false hi]
      first|exact⟨rfl,⟨_,rfl⟩,.inr ⟨rfl,rfl⟩⟩|exact⟨rfl,⟨_,rfl⟩,.inr trivial⟩|simp
  · obtain⟨k,hk,e1,e2⟩:=AW hu
    have hkm:k<(v.links.map aB.cd).length:=by simpa using hk
    obtain⟨bL,gL,pre,row,post,fr,i0,_⟩:=oL.j9 (List.nodup_append.1 (List.nodup_append.1 (List.nodup_append.1 nd).2.1).2.1).1 hkm
    simp only[EZ,ag,Nat.reduceAdd,Nat.reduceBEq,xg,mq,e1,decide_eq_true (show(k:Int)≥0 by omega),show(v.links.any fun x=>x.peer == peer && x.up)=true from hu,hp.nil,hp.fld,hp.rd,List.length_cons,List.length_nil,Nat.reduceLeDiff,i0]
    exact⟨rfl,⟨_,rfl⟩,.inl ⟨k,hk,rfl,i0⟩⟩
end Go.Proofs.YtccjhmhkfnnmaaaGreat
