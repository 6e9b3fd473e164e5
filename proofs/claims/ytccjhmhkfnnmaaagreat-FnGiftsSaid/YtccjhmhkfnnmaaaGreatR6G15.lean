import Derived.Test.YtccjhmhkfnnmaaaGreatCodeFnGifts
import Derived.Test.YtccjhmhkfnnmaaaGreatAmG8
import Derived.Test.YtccjhmhkfnnmaaaGreatAmG9
import Derived.Test.YtccjhmhkfnnmaaaGreatAmG10
set_option linter.unusedVariables false
set_option linter.unusedSimpArgs false
namespace Go.Proofs.YtccjhmhkfnnmaaaGreat
open Go.AM
variable {Γ:cj}
end Go.Proofs.YtccjhmhkfnnmaaaGreat
namespace Go.Proofs.YtccjhmhkfnnmaaaGreat
open Go.AM
variable {Γ:cj}
def qe(n lo hi:Int):Bool:=decide (lo≤n) && decide (n≤hi)
theorem dH(n lo hi:Int)(h:AH):T Tryz.prog Γ Fn.ke [.int .i64 n,.int .i64 lo,.int .i64 hi] h fun v h'=>v=.bool (qe n lo hi)∧h'=h:=by
  refine KY (aD aJ aK [] _ _ _ ?_)
  unfold FJ
  simp only[EZ,ag,Nat.reduceAdd,Nat.reduceBEq,DR]
  refine mb (fun h1=>?_) (fun h1=>?_)<;>simp only[EZ,ag,Nat.reduceAdd,Nat.reduceBEq,DR,h1]
  · exact⟨rfl,by simp only[qe,h1,Bool.true_and]⟩
  · exact⟨rfl,by simp only[qe,h1,Bool.false_and]⟩
theorem Gh(n lo hi:Int)(h:AH):T Tryz.prog Γ Fn.RL [.int .i64 n,.int .i64 lo,.int .i64 hi] h fun v h'=>v=.bool (qe n lo hi)∧h'=h:=by
  refine QO (aD aJ aK [] _ _ _ ?_)
  unfold Nq
  simp only[EZ,ag,Nat.reduceAdd,Nat.reduceBEq,Gg]
  refine mb (fun h1=>?_) (fun h1=>?_)<;>simp only[EZ,ag,Nat.reduceAdd,Nat.reduceBEq,Gg,h1]
  · exact⟨rfl,by simp only[qe,h1,Bool.true_and]⟩
  · exact⟨rfl,by simp only[qe,h1,Bool.false_and]⟩
def dq(l:List aM)(pos:Int):Int:=match l.find? (fun x=>x.pos == pos)with|some x=>x.entity|none=>-1
theorem Bk{α:Type}{p:α→Bool}{l:List α}{k:Nat}(hk:k<l.length)(h0:∀(i:Nat) (hi:i<l.length),i<k→p l[i]=false)(h1:p l[k]=true):l.find? p=some l[k]:=by
  rw[List.find?_eq_some_iff_getElem];exact⟨h1,k,hk,rfl,fun j hj=>by simp[h0 j (by omega) hj]⟩
theorem vW{α:Type}{p:α→Bool}{l:List α}(h:∀(i:Nat) (hi:i<l.length),i<l.length→p l[i]=false):l.find? p=none:=by
  rw[List.find?_eq_none];intro x hx;obtain⟨i,hi,rfl⟩:=List.mem_iff_getElem.1 hx;simp[h i hi hi]
theorem tr(β:Bool)(l:aC)(hl:l.exports.length≤1048576)(pos:Int)(h:AH):T Tryz.prog Γ Fn.Fk [.agg (l.c β),.int .i64 pos] h fun v h'=>v=.int .i64 (dq l.exports pos)∧h'=h:=by
  have L0:=dN β 3 false l.exports (aM.c β)
  refine Qk (aD aJ aK [] _ _ _ ?_)
  unfold LM
  simp only[EZ,ag,Nat.reduceAdd,Nat.reduceBEq,wb]
  refine dD aJ aK [] (fun k:Nat=>k≤l.exports.length∧∀(i:Nat) (hi:i<l.exports.length),i<k→(l.exports[i].pos == pos)=false) (fun k=>l.exports.length-k)
    (fun k=>A4 (.int .i64 pos) (.lp ([]:List (List AV)).length 0) (.int .i64 k) (([]:List (List AV))++[l.c β]) h) 0 ⟨by omega,fun i hi h=>by omega⟩ ⟨by simp[A4,eP,eM],rfl,rfl⟩ ?_
  rintro k ⟨hk,ht⟩
  simp only[EZ,ag,Nat.reduceAdd,Nat.reduceBEq,wb,A4,aC.c,L0]
  refine bI (fun hlt=>?_) (fun hge=>?_)
  · have hlt:k<l.exports.length:=by simpa using hlt
    have i0:=dy (β:=β) (sz:=3) (ex:=false) (ce:=aM.c β) hlt
    cases hp:l.exports[k].pos == pos
    · simp only[EZ,ag,Nat.reduceAdd,Nat.reduceBEq,wb,i0,aC.c,aM.c,hp]
      exact⟨k+1,⟨hlt,mc (P:=fun x:aM=>(x.pos == pos)=false) ht hp⟩,by omega,⟨by rw[wN (by omega)];simp[A4,eP,eM],rfl,rfl⟩⟩
    · simp only[EZ,ag,Nat.reduceAdd,Nat.reduceBEq,wb,i0,aC.c,aM.c,hp]
      exact⟨rfl,by simp only[dq,Bk (p:=fun x:aM=>x.pos == pos) hlt ht hp]⟩
  · have hge:k=l.exports.length:=by simp at hge;omega
    subst hge
    simp only[EZ,ag,Nat.reduceAdd,Nat.reduceBEq,wb]
    exact⟨rfl,by simp only[dq,vW (p:=fun x:aM=>x.pos == pos) ht]⟩
theorem Uo(β:Bool)(x:aM)(pos:Int)(H:AH){k:Nat}(hk:bJ H k=some (0,[.int .i64 pos])):T Tryz.prog Γ Fn.Vb [.agg (x.c β),.gp k 0 0] H fun v h'=>v=.bool (x.pos == pos)∧h'=H:=by
  refine Sd (aD aJ aK [] _ _ _ ?_)
  unfold JP
  have hc:∀(e:List AV) (l:List (List AV)) (off n:Nat),(St.mk e l H).cells (.gp k 0 off) n=sub [.int .i64 pos] off n:=fun e l off n=>bk hk
  simp only[EZ,ag,Nat.reduceAdd,Nat.reduceBEq,MS,aM.c,hc]
  first|exact⟨rfl,rfl⟩|exact rfl
theorem JX(β:Bool)(l:aC)(hl:l.exports.length≤1048576)(pos:Int)(H:AH){p:AV}(hp:Ptr H p (l.c β)):
    T Tryz.prog Γ Fn.Pa [p,.int .i64 pos] H fun v h'=>v=.int .i64 (dI (fun x:aM=>x.pos == pos) l.exports)∧h'=H:=by
  refine(?_:T Tryz.prog Γ Fn.Pa _ H fun v h'=>v=.int .i64 (dI (fun x:aM=>x.pos == pos) l.exports)∧∃N,h'=H++N).drop (by rintro v h' ⟨rfl,N,rfl⟩;exact⟨N,rfl,.int _ _,rfl,rfl⟩)
  refine QR (aD aJ aK [3] _ _ _ ?_)
  unfold Jr
  have hp':∀N,Ptr (H++N) p (l.c β):=fun N=>hp.grow N
  simp only[EZ,ag,Nat.reduceAdd,Nat.reduceBEq,F6,pQ _ _ (show List.all [AV.int .i64 pos] bo=true from rfl),g9,hp.nil,hp.fld,(hp' [some (0,[.int .i64 pos])]).rd,aC.iZ,Nat.reduceLeDiff,aC.c]
  have hcall:=i5 (P:=Tryz.prog) (Γ:=Γ) aJ aK (sz:=3) (agg:=true) (fun hw=>KS hw) (β:=β) (l:=l.exports) (c:=aM.c β) (by omega) (fun x=>⟨⟨rfl,.inl rfl⟩,rfl⟩) (g:=Fn.Vb) (first:=[]) (caps:=[.gp H.length 0 0]) rfl (fun x:aM=>x.pos == pos) (h:=H++[some (0,[.int .i64 pos])]) (fun x hx=>Uo β x pos _ (cw _ _))
  refine ah.val (by simp only[EO]) hcall ?_
  simp only[EZ,ag,Nat.reduceAdd,Nat.reduceBEq,F6]
  exact⟨rfl,_,rfl⟩
theorem Ug(β:Bool)(l:aC)(hl:l.exports.length≤1048576)(pos:Int)(h:AH):T Tryz.prog Γ Fn.Vf [.agg (l.c β),.int .i64 pos] h fun v h'=>v=.int .i64 (dq l.exports pos)∧h'=h:=by
  refine(?_:T Tryz.prog Γ Fn.Vf _ h fun v h'=>v=.int .i64 (dq l.exports pos)∧∃N,h'=h++N).drop (by rintro v h' ⟨rfl,N,rfl⟩;exact⟨N,rfl,.int _ _,rfl,rfl⟩)
  refine RY (aD aJ aK [2] _ _ _ ?_)
  unfold MF
  simp only[EZ,ag,Nat.reduceAdd,Nat.reduceBEq,Ee,pQ _ _ (aC.e9 β l),g9]
  have hp:Ptr (h++[some (0,l.c β)]) (.gp h.length 0 0) (l.c β):=Ptr.QT (cw _ _)
  refine ah.val (by simp only[EO]) (JX β l hl pos _ hp) ?_
  rcases eQ (fun x:aM=>x.pos == pos) l.exports with⟨k,hk,e1,e2,e3⟩|⟨e1,e2,e3⟩
  · have i0:=dy (β:=β) (sz:=3) (ex:=false) (ce:=aM.c β) hk
    simp only[EZ,ag,Nat.reduceAdd,Nat.reduceBEq,Ee,e1,show decide ((0:Int)≤(k:Int))=true from by simp,hB,aC.c,i0,aM.c]
    exact⟨rfl,by simp only[dq,e3],_,rfl⟩
  · simp only[EZ,ag,Nat.reduceAdd,Nat.reduceBEq,Ee,e1,show decide ((0:Int)≤-1)=false from rfl]
    exact⟨rfl,by simp only[dq,e2],_,rfl⟩
theorem lf(β:Bool)(v:aA)(hl:v.aq.length≤1048576)(peer:Int)(h:AH):T Tryz.prog Γ Fn.yC [.agg (v.c β),.int .i64 peer] h fun r h'=>r=.int .i64 (dI (fun l:aC=>l.peer == peer) v.aq)∧h'=h:=by
  have L0:=dN β 7 false v.aq (aC.c β)
  refine RN (aD aJ aK [] _ _ _ ?_)
  unfold KM
  simp only[EZ,ag,Nat.reduceAdd,Nat.reduceBEq,zG]
  refine dD aJ aK [] (fun k:Nat=>k≤v.aq.length∧∀(i:Nat) (hi:i<v.aq.length),i<k→(v.aq[i].peer == peer)=false) (fun k=>v.aq.length-k)
    (fun k=>Ad (.int .i64 peer) (.lp ([]:List (List AV)).length 0) (.int .i64 k) (([]:List (List AV))++[v.c β]) h) 0 ⟨by omega,fun i hi h=>by omega⟩ ⟨by simp[Ad,eP,eM],rfl,rfl⟩ ?_
  rintro k ⟨hk,ht⟩
  simp only[EZ,ag,Nat.reduceAdd,Nat.reduceBEq,zG,Ad,aA.c,L0]
  refine bI (fun hlt=>?_) (fun hge=>?_)
  · have hlt:k<v.aq.length:=by simpa using hlt
    have i0:=dy (β:=β) (sz:=7) (ex:=false) (ce:=aC.c β) hlt
    cases hp:v.aq[k].peer == peer
    · simp only[EZ,ag,Nat.reduceAdd,Nat.reduceBEq,zG,i0,aA.c,aC.c,hp]
      exact⟨k+1,⟨hlt,mc (P:=fun l:aC=>(l.peer == peer)=false) ht hp⟩,by omega,⟨by rw[wN (by omega)];simp[Ad,eP,eM],rfl,rfl⟩⟩
    · simp only[EZ,ag,Nat.reduceAdd,Nat.reduceBEq,zG,i0,aA.c,aC.c,hp]
      exact⟨rfl,by rw[kJ (p:=fun l:aC=>l.peer == peer) hlt ht hp]⟩
  · have hge:k=v.aq.length:=by simp at hge;omega
    subst hge
    simp only[EZ,ag,Nat.reduceAdd,Nat.reduceBEq,zG]
    exact⟨rfl,by rw[kh (p:=fun l:aC=>l.peer == peer) fun i hi=>ht i hi hi]⟩
theorem Rx(β:Bool)(x:aC)(peer:Int)(H:AH){k:Nat}(hk:bJ H k=some (0,[.int .i64 peer])):T Tryz.prog Γ Fn.U9 [.agg (x.c β),.gp k 0 0] H fun v h'=>v=.bool (x.peer == peer)∧h'=H:=by
  refine UM (aD aJ aK [] _ _ _ ?_)
  unfold MT
  have hc:∀(e:List AV) (l:List (List AV)) (off n:Nat),(St.mk e l H).cells (.gp k 0 off) n=sub [.int .i64 peer] off n:=fun e l off n=>bk hk
  simp only[EZ,ag,Nat.reduceAdd,Nat.reduceBEq,Kk,aC.c,hc]
  first|exact⟨rfl,rfl⟩|exact rfl
theorem JL(β:Bool)(v:aA)(hl:v.aq.length≤1048576)(peer:Int)(h:AH):T Tryz.prog Γ Fn.TX [.agg (v.c β),.int .i64 peer] h fun r h'=>r=.int .i64 (dI (fun l:aC=>l.peer == peer) v.aq)∧h'=h:=by
  refine(?_:T Tryz.prog Γ Fn.TX _ h fun r h'=>r=.int .i64 (dI (fun l:aC=>l.peer == peer) v.aq)∧∃N,h'=h++N).drop (by rintro v h' ⟨rfl,N,rfl⟩;exact⟨N,rfl,.int _ _,rfl,rfl⟩)
  refine PV (aD aJ aK [3] _ _ _ ?_)
  unfold MG
  simp only[EZ,ag,Nat.reduceAdd,Nat.reduceBEq,GJ,pQ _ _ (show List.all [AV.int .i64 peer] bo=true from rfl),g9,aA.c]
  have hcall:=i5 (P:=Tryz.prog) (Γ:=Γ) aJ aK (sz:=7) (agg:=true) (fun hw=>Mx hw) (β:=β) (l:=v.aq) (c:=aC.c β) (by omega) (fun x=>⟨⟨rfl,.inl rfl⟩,rfl⟩) (g:=Fn.U9) (first:=[]) (caps:=[.gp h.length 0 0]) rfl (fun l:aC=>l.peer == peer) (h:=h++[some (0,[.int .i64 peer])]) (fun x hx=>Rx β x peer _ (cw _ _))
  refine ah.val (by simp only[EO]) hcall ?_
  simp only[EZ,ag,Nat.reduceAdd,Nat.reduceBEq,GJ]
  exact⟨rfl,_,rfl⟩
theorem IE{α:Type}(p:α→Bool)(l:List α):decide (0≤dI p l)=l.any p:=by
  rcases eQ p l with⟨k,hk,e1,e2,e3⟩|⟨e1,e2,e3⟩
  · rw[e1]
    have h2:l.any p=true:=List.any_eq_true.2 ⟨_,List.mem_of_find?_eq_some e3,List.find?_some e3⟩
    rw[h2];simp
  · rw[e1]
    have h2:l.any p=false:=by
      cases hh:l.any p
      · rfl
      · obtain⟨x,hx,hp⟩:=List.any_eq_true.1 hh
        have:=List.find?_eq_none.1 e2 x hx
        exact absurd hp this
    rw[h2];rfl
theorem mM{g:FuncId}{caps:List AV}(hc:caps.all eH=true)(hc2:caps.all iJ=true)(p:aC→Bool)(β:Bool)(l:List aC)(hl:l.length≤1048576){h:AH}(hp:∀x∈l,T Tryz.prog Γ g ([]++([.agg (x.c β)]++caps)) h fun v h'=>v=.bool (p x)∧h'=h):
    T Tryz.prog Γ Fn.VX [.vs β 7 false (l.map (aC.c β)),.fn g [] caps] h fun v h'=>v=.bool (l.any p)∧h'=h:=by
  have hcall:=i5 (P:=Tryz.prog) (Γ:=Γ) aJ aK (sz:=7) (agg:=true) (fun hw=>Mx hw) (β:=β) (l:=l) (c:=aC.c β) (by omega) (fun x=>⟨⟨rfl,.inl rfl⟩,rfl⟩) (g:=g) (first:=[]) (caps:=caps) hc p (h:=h) hp
  refine Ta (aD aJ aK [] _ _ _ ?_)
  unfold Ly
  simp only[EZ,ag,Nat.reduceAdd,Nat.reduceBEq,Ge]
  refine ah.val (by simp only[EO,hc,hc2]) hcall ?_
  simp only[EZ,ag,Nat.reduceAdd,Nat.reduceBEq,Ge]
  rw[show decide (dI p l≥0)=l.any p from IE p l]
  first|exact⟨rfl,rfl⟩|exact rfl
def ki(l:List aC)(peer:Int):Bool:=l.any fun x=>x.peer == peer && x.up
theorem jU{l:List aC}{peer:Int}(h:ki l peer=true):∃k:Nat,∃hk:k<l.length,dI (fun x:aC=>x.peer == peer) l=(k:Int)∧l.find? (fun x:aC=>x.peer == peer)=some l[k]:=by
  rcases eQ (fun x:aC=>x.peer == peer) l with⟨k,hk,e1,e2,e3⟩|⟨e1,e2,e3⟩
  · exact⟨k,hk,e1,e3⟩
  · obtain⟨x,hx,hp⟩:=List.any_eq_true.1 h
    have:=List.find?_eq_none.1 e2 x hx
    simp only[Bool.and_eq_true]at hp
    exact absurd hp.1 this
theorem T5(β:Bool)(x:aC)(peer:Int)(H:AH){k:Nat}(hk:bJ H k=some (0,[.int .i64 peer])):T Tryz.prog Γ Fn.OX [.agg (x.c β),.gp k 0 0] H fun v h'=>v=.bool (x.peer == peer && x.up)∧h'=H:=by
  have hc:∀(e:List AV) (l:List (List AV)) (off n:Nat),(St.mk e l H).cells (.gp k 0 off) n=sub [.int .i64 peer] off n:=fun e l off n=>bk hk
  refine KL (aD aJ aK [] _ _ _ ?_)
  unfold FK
  cases hp:x.peer == peer
  · simp only[EZ,ag,Nat.reduceAdd,Nat.reduceBEq,Ca,aC.c,hc,hp]
    first|exact⟨rfl,rfl⟩|exact rfl
  · simp only[EZ,ag,Nat.reduceAdd,Nat.reduceBEq,Ca,aC.c,hc,hp]
    first|exact⟨rfl,rfl⟩|exact rfl
theorem Jk(base:Nat)(β:Bool)(l:aC):∀x∈aC.c β l,Iy base x:=by
  have q:∀(m:List aH),Iy base (.vs β 2 false (m.map (aH.c β))):=fun m=>.vs _ _ _ _ (fun _=>rfl) (fun r hr y hy=>by
    obtain⟨e,_,rfl⟩:=List.mem_map.1 hr
    simp only[aH.c,List.mem_cons,List.not_mem_nil,or_false]at hy
    rcases hy with rfl|rfl<;>exact .int _ _)
  intro x hx
  simp only[aC.c,List.mem_cons,List.not_mem_nil,or_false]at hx
  rcases hx with rfl|rfl|rfl|rfl|rfl|rfl|rfl
  · exact .int _ _
  · exact .bool _
  · exact .vs _ _ _ _ (fun _=>rfl) (fun r hr y hy=>by
      obtain⟨e,_,rfl⟩:=List.mem_map.1 hr
      simp only[aM.c,List.mem_cons,List.not_mem_nil,or_false]at hy
      rcases hy with rfl|rfl|rfl<;>exact .int _ _)
  · exact .int _ _
  · exact q _
  · exact .int _ _
  · exact q _
theorem Mb(β:Bool)(v:aA)(hv:v.aq.length≤1048576)(peer:Int)(H:AH){p:AV}(hp:Ptr H p (v.c β)):
    T Tryz.prog Γ Fn.NY [p,.int .i64 peer] H fun r h'=>((ki v.aq peer=true∧∃k:Nat,∃hk:k<v.aq.length,dI (fun x:aC=>x.peer == peer) v.aq=(k:Int)∧r=.ip β (v.aq[k].c β))∨(ki v.aq peer=false∧r=.nilp))∧h'=H:=by
  refine(?_:T Tryz.prog Γ Fn.NY _ H fun r h'=>((ki v.aq peer=true∧∃k:Nat,∃hk:k<v.aq.length,dI (fun x:aC=>x.peer == peer) v.aq=(k:Int)∧r=.ip β (v.aq[k].c β))∨(ki v.aq peer=false∧r=.nilp))∧∃N,h'=H++N).drop (by
    rintro r h' ⟨hr,N,rfl⟩
    refine⟨N,rfl,?_,hr,rfl⟩
    rcases hr with⟨_,k,hk,_,rfl⟩|⟨_,rfl⟩
    · exact .ip _ _ (fun _=>rfl) (Jk _ _ _)
    · exact .nilp)
  have hp':∀N,Ptr (H++N) p (v.c β):=fun N=>hp.grow N
  have L0:=dN β 7 false v.aq (aC.c β)
  refine Jt (aD aJ aK [3] _ _ _ ?_)
  unfold FL
  simp only[EZ,ag,Nat.reduceAdd,Nat.reduceBEq,nz,iK,pQ _ _ (show List.all [AV.int .i64 peer] bo=true from rfl),g9,hp.nil,hp.fld,(hp' [some (0,[.int .i64 peer])]).rd,aA.iZ,Nat.reduceLeDiff,aA.c]
  refine ah.val (by simp only[EO]) (mM (g:=Fn.OX) (caps:=[.gp H.length 0 0]) rfl rfl (fun x=>x.peer == peer && x.up) β v.aq hv (fun x hx=>T5 β x peer _ (cw _ _))) ?_
  simp only[EZ,ag,Nat.reduceAdd,Nat.reduceBEq,nz,iK,hp.nil,hp.fld,(hp' [some (0,[.int .i64 peer])]).rd,(hp' [some (0,[.int .i64 peer])]).rd0,aA.iZ,Nat.reduceLeDiff,aA.c,hB]
  refine ah.val (by simp only[EO]) (JL β v hv peer _) ?_
  cases hu:ki v.aq peer
  · by_cases hi:dI (fun x:aC=>x.peer == peer) v.aq≥0
    · simp only[EZ,ag,Nat.reduceAdd,Nat.reduceBEq,nz,iK,decide_eq_true hi,show(v.aq.any fun x=>x.peer == peer && x.up)=false from hu]
      first|exact⟨rfl,.inr trivial,_,rfl⟩|exact⟨rfl,.inr ⟨rfl,rfl⟩,_,rfl⟩|exact⟨rfl,trivial,_,rfl⟩|exact⟨rfl,⟨rfl,rfl⟩,_,rfl⟩
    · simp only[EZ,ag,Nat.reduceAdd,Nat.reduceBEq,nz,iK,decide_eq_false hi]
      first|exact⟨rfl,.inr trivial,_,rfl⟩|exact⟨rfl,.inr ⟨rfl,rfl⟩,_,rfl⟩|exact⟨rfl,trivial,_,rfl⟩|exact⟨rfl,⟨rfl,rfl⟩,_,rfl⟩
  · obtain⟨k,hk,e1,e2⟩:=jU hu
    have i0:=dy (β:=β) (sz:=7) (ex:=false) (ce:=aC.c β) hk
    simp only[EZ,ag,Nat.reduceAdd,Nat.reduceBEq,nz,iK,e1,decide_eq_true (show(k:Int)≥0 by omega),show(v.aq.any fun x=>x.peer == peer && x.up)=true from hu,hp.nil,hp.fld,(hp' [some (0,[.int .i64 peer])]).rd,aA.iZ,Nat.reduceLeDiff,aA.c,i0]
    first|exact⟨rfl,.inl ⟨k,hk,rfl,rfl⟩,_,rfl⟩|exact⟨rfl,⟨k,hk,rfl,rfl⟩,_,rfl⟩|exact⟨rfl,⟨k,⟨hk,rfl⟩,rfl⟩,_,rfl⟩|exact⟨rfl,⟨k,rfl,hk,rfl⟩,_,rfl⟩
theorem i6(β:Bool)(v:aA)(hl:v.aq.length≤1048576)(peer:Int)(h:AH):T Tryz.prog Γ Fn.vS [.agg (v.c β),.int .i64 peer] h fun r h'=>r=.bool (ki v.aq peer)∧h'=h:=by
  have L0:=dN β 7 false v.aq (aC.c β)
  refine Rj (aD aJ aK [] _ _ _ ?_)
  unfold J6
  simp only[EZ,ag,Nat.reduceAdd,Nat.reduceBEq,ui]
  refine dD aJ aK [] (fun k:Nat=>k≤v.aq.length∧∀(i:Nat) (hi:i<v.aq.length),i<k→(v.aq[i].peer == peer && v.aq[i].up)=false) (fun k=>v.aq.length-k)
    (fun k=>uv (.int .i64 peer) (.lp ([]:List (List AV)).length 0) (.int .i64 k) (([]:List (List AV))++[v.c β]) h) 0 ⟨by omega,fun i hi h=>by omega⟩ ⟨by simp[uv,eP,eM],rfl,rfl⟩ ?_
  rintro k ⟨hk,ht⟩
  simp only[EZ,ag,Nat.reduceAdd,Nat.reduceBEq,ui,uv,aA.c,L0]
  refine bI (fun hlt=>?_) (fun hge=>?_)
  · have hlt:k<v.aq.length:=by simpa using hlt
    have i0:=dy (β:=β) (sz:=7) (ex:=false) (ce:=aC.c β) hlt
    have htrue:(v.aq[k].peer == peer && v.aq[k].up)=true→ki v.aq peer=true:=fun h=>List.any_eq_true.2 ⟨_,List.getElem_mem hlt,h⟩
    cases hp:v.aq[k].peer == peer
    · simp only[EZ,ag,Nat.reduceAdd,Nat.reduceBEq,ui,i0,aA.c,aC.c,hp]
      exact⟨k+1,⟨hlt,mc (P:=fun l:aC=>(l.peer == peer && l.up)=false) ht (by rw[hp];rfl)⟩,by omega,⟨by rw[wN (by omega)];simp[uv,eP,eM],rfl,rfl⟩⟩
    cases hu:v.aq[k].up
    · simp only[EZ,ag,Nat.reduceAdd,Nat.reduceBEq,ui,i0,aA.c,aC.c,hp,hu]
      exact⟨k+1,⟨hlt,mc (P:=fun l:aC=>(l.peer == peer && l.up)=false) ht (by rw[hp,hu];rfl)⟩,by omega,⟨by rw[wN (by omega)];simp[uv,eP,eM],rfl,rfl⟩⟩
    · simp only[EZ,ag,Nat.reduceAdd,Nat.reduceBEq,ui,i0,aA.c,aC.c,hp,hu]
      have ax:=htrue (by rw[hp,hu];rfl)
      first|exact⟨rfl,by rw[ax],rfl⟩|exact⟨rfl,by rw[ax]⟩|rw[ax]
  · have hge:k=v.aq.length:=by simp at hge;omega
    subst hge
    simp only[EZ,ag,Nat.reduceAdd,Nat.reduceBEq,ui]
    have ax:ki v.aq peer=false:=by
      cases hh:ki v.aq peer
      · rfl
      · obtain⟨x,hx,hp⟩:=List.any_eq_true.1 hh
        obtain⟨i,hi,rfl⟩:=List.getElem_of_mem hx
        rw[ht i hi hi]at hp;cases hp
    first|exact⟨rfl,by rw[ax],rfl⟩|exact⟨rfl,by rw[ax]⟩|rw[ax]
end Go.Proofs.YtccjhmhkfnnmaaaGreat
namespace Go.Proofs.YtccjhmhkfnnmaaaGreat
open Go.AM
variable {Γ:cj}
theorem sN(β:Bool)(l:List ar)(hl:l.length≤1048576)(h:AH):T Tryz.prog Γ Fn.O9 [.vs β 2 false (l.map (ar.c β))] h (aS h [.c (.sl 2 (l.map ar.cd))]):=
  pG aJ aK (fun hw=>SV hw) (by omega) (by simp only[aU];omega) (fun x=>⟨rfl,rfl⟩) (fun x=>(ar.bM false x).symm)
theorem Sv(β:Bool)(x:aX)(hx:x.ok 1048576)(h:AH):T Tryz.prog Γ Fn.Vq [.agg (x.c β)] h (aS h [.a x.cd]):=by
  refine T.jr ?_
  refine RX (aD aJ aK [] _ _ _ ?_)
  unfold Jq
  simp only[EZ,ag,Nat.reduceAdd,Nat.reduceBEq,HV,aF,ER,aX.c]
  refine ah.ref (by simp only[EO]) (sN β x.args hx.2 _) ?_
  rintro w H1 fr
  replace fr:aS h _ _ _:=fr
  obtain⟨fw,ow,nw,bw,ew⟩:=fr.c1
  obtain⟨c1,c2,c3,c4⟩:=ow.cell
  simp only[EZ,ag,Nat.reduceAdd,Nat.reduceBEq,HV,aF,ER,aX.c,c1,c2,c3]
  obtain⟨N,rfl⟩:=ew.out
  refine⟨by simp[c7,eH,c4,c2,c3,mP,nM],_,N,fw,rfl,rfl,?_,nw,bw⟩
  have:fw=fw++[]:=by simp
  rw[this]
  exact .i (.s (.o ow (.i (.i (.i (.i .nil))))))
theorem GM(β:Bool)(l:List aX)(hl:l.length≤1048576)(ho':∀x∈l,x.ok 1048576)(h:AH):T Tryz.prog Γ Fn.OQ [.vs β 7 false (l.map (aX.c β))] h (aS h [.c (.sl 7 (l.map aX.cd))]):=by
  have L0:=dN β 7 false l (aX.c β)
  generalize e0:AV.vs β 7 false (l.map (aX.c β))=a0 at *
  refine T.n7 ?_
  refine TN (aD aJ aK [] _ _ _ ?_)
  unfold M8
  simp only[EZ,ag,Nat.reduceAdd,Nat.reduceBEq,yw,EA,L0]
  refine dD aJ aK [] (fun x:Nat×AV×AH×List Nat×List (List AV)=>x.1≤l.length∧bN x.2.2.1 x.2.1 (.sl 7 ((l.take x.1).map aX.cd)) x.2.2.2.1∧x.2.2.2.1.Nodup∧(∀c∈x.2.2.2.1,h.length≤c)∧bQ h x.2.2.1) (fun x=>l.length-x.1)
    (fun x=>AY x.2.1 a0 (.int .i64 l.length) (.int .i64 x.1) x.2.2.2.2 x.2.2.1) (0,.gs h.length 0 0 0 0 7 true,h++[some (0,[])],[h.length],[]) ⟨by simp,dK h 7,by simp,by simp,bQ.app _ _⟩ ⟨by simp[AY,eP,eM],rfl,rfl⟩ ?_
  rintro⟨k,v,H,fp,L⟩ ⟨hk,ho,nd,hfp,hN⟩
  simp only at hk ho nd hfp hN
  simp only[EZ,ag,Nat.reduceAdd,Nat.reduceBEq,yw,AY]
  refine bI (fun hlt=>?_) (fun hge=>?_)
  rotate_left
  · have hge:k=l.length:=by simp at hge;omega
    subst hge
    simp only[EZ,ag,Nat.reduceAdd,Nat.reduceBEq,yw]
    rw[List.take_length]at ho
    obtain⟨N,rfl⟩:=hN.out
    exact⟨ho.c7,N,fp,rfl,ho,nd,hfp⟩
  have hlt:k<l.length:=by simpa using hlt
  have i0:=dy (β:=β) (sz:=7) (ex:=false) (ce:=aX.c β) hlt
  rw[e0]at i0
  have hox:=ho' _ (List.getElem_mem hlt)
  simp only[EZ,ag,Nat.reduceAdd,Nat.reduceBEq,yw,i0,aX.c]
  refine ah.ref (by simp only[EO]) (Sv β l[k] hox _) ?_
  rintro _ H1 fr
  replace fr:aS H _ _ _:=fr
  obtain⟨aw,fw,rfl,ow,nw,bw,ew⟩:=fr.a1
  have hdis:(fp++fw).Nodup:=eI nd nw (fun c hc=>ho.lt c hc) bw
  replace ho:=ho.ext ew
  have hx1:=hN.trans ew
  have oo:=ow
  simp only[aX.cd,gI,gD,hU,jP,jm]at oo
  obtain⟨_,_,_,_,rfl,_,⟨rfl,rfl⟩,⟨_,_,_,_,rfl,_,⟨rfl,rfl⟩,⟨a2,_,g2,_,rfl,_,u2,⟨_,_,_,_,rfl,_,⟨rfl,rfl⟩,⟨_,_,_,_,rfl,_,⟨rfl,rfl⟩,⟨_,_,_,_,rfl,_,⟨rfl,rfl⟩,⟨_,_,_,_,rfl,_,⟨rfl,rfl⟩,⟨rfl,_⟩⟩⟩⟩⟩⟩⟩⟩:=oo
  obtain⟨c1,c2,c3,c4⟩:=u2.cell
  obtain⟨v',H',fp',ea,o',nd',hf',hl',hm'⟩:=dw (bytes:=80) ho hdis (by omega) rfl ow (by simp only[List.length_map,List.length_take,aU];omega)
  simp only[EZ,ag,Nat.reduceAdd,Nat.reduceBEq,yw,EA,c1,c2,c3,ea]
  refine⟨(k+1,v',H',fp',_),⟨hlt,by simp only;rw[List.take_succ_eq_append_getElem hlt,List.map_append];exact o',nd',fun c hc=>?_,hx1.vF hl' hf' hfp⟩,by simp only;omega,⟨by rw[wN (by omega)];simp[AY,eP,eM],rfl,rfl⟩⟩
  have:=hN.len;have:=hx1.len
  rcases hm' c hc with g|g|g
  · exact hfp c g
  · have:=bw c g;omega
  · omega
theorem HU(β:Bool)(l:List aX)(hl:l.length≤1048576)(ho':∀x∈l,x.ok 1048576)(h:AH):T Tryz.prog Γ Fn.T4 [.vs β 7 false (l.map (aX.c β))] h (aS h [.c (.sl 7 (l.map aX.cd))]):=by
  have L0:=dN β 7 false l (aX.c β)
  generalize e0:AV.vs β 7 false (l.map (aX.c β))=a0 at *
  refine T.n7 ?_
  refine Ut (aD aJ aK [] _ _ _ ?_)
  unfold JN
  simp only[EZ,ag,Nat.reduceAdd,Nat.reduceBEq,BM,EA,L0]
  refine dD aJ aK [] (fun x:Nat×AV×AH×List Nat×List (List AV)=>x.1≤l.length∧bN x.2.2.1 x.2.1 (.sl 7 ((l.take x.1).map aX.cd)) x.2.2.2.1∧x.2.2.2.1.Nodup∧(∀c∈x.2.2.2.1,h.length≤c)∧bQ h x.2.2.1) (fun x=>l.length-x.1)
    (fun x=>Ag a0 x.2.1 (.int .i64 x.1) x.2.2.2.2 x.2.2.1) (0,.gs h.length 0 0 0 0 7 true,h++[some (0,[])],[h.length],[]) ⟨by simp,dK h 7,by simp,by simp,bQ.app _ _⟩ ⟨by simp[Ag,eP,eM],rfl,rfl⟩ ?_
  rintro⟨k,v,H,fp,L⟩ ⟨hk,ho,nd,hfp,hN⟩
  simp only at hk ho nd hfp hN
  simp only[EZ,ag,Nat.reduceAdd,Nat.reduceBEq,BM,Ag,L0]
  refine bI (fun hlt=>?_) (fun hge=>?_)
  rotate_left
  · have hge:k=l.length:=by simp at hge;omega
    subst hge
    simp only[EZ,ag,Nat.reduceAdd,Nat.reduceBEq,BM]
    rw[List.take_length]at ho
    obtain⟨N,rfl⟩:=hN.out
    exact⟨ho.c7,N,fp,rfl,ho,nd,hfp⟩
  have hlt:k<l.length:=by simpa using hlt
  have i0:=dy (β:=β) (sz:=7) (ex:=false) (ce:=aX.c β) hlt
  rw[e0]at i0
  have hox:=ho' _ (List.getElem_mem hlt)
  have hal:l[k].args.length≤1048576:=hox.2
  have ho1:=ho.ext (bQ.app H [some (0,[])])
  obtain⟨w,H1,fw,eb,ow,nw,hfw,hlw,hmw⟩:=kR (bytes:=16) (dK H 2) (by simp) (by omega) (β:=β) (l:=l[k].args) (c:=ar.c β) (fun x=>⟨rfl,rfl⟩) (fun x=>(ar.bM false x).symm) (by simp only[List.length_nil,aU];omega)
  have ew:bQ H H1:=(bQ.app H [some (0,[])]).vF hlw hfw (by simp)
  have bw:∀c∈fw,H.length≤c:=fun c hc=>by
    rcases hmw c hc with g|g
    · simp at g;omega
    · simp at g;omega
  have hdis:(fp++(fw++[])).Nodup:=by rw[List.append_nil];exact eI nd nw (fun c hc=>ho.lt c hc) bw
  replace ho:=ho.ext ew
  have hx1:=hN.trans ew
  obtain⟨c1,c2,c3,c4⟩:=ow.cell
  have ow2:aO H1 [.int .i64 l[k].target,.str l[k].name,w,.int .i64 l[k].result,.int .i64 l[k].tag.vat,.int .i64 l[k].tag.entity,.int .i64 l[k].tag.seq] l[k].cd (fw++[]):=.i (.s (.o ow (.i (.i (.i (.i .nil))))))
  obtain⟨v',H',fp',ea,o',nd',hf',hl',hm'⟩:=dw (bytes:=80) ho hdis (by omega) rfl ow2 (by simp only[List.length_map,List.length_take,aU];omega)
  simp only[EZ,ag,Nat.reduceAdd,Nat.reduceBEq,BM,i0,aX.c,EA,aF,eb,c1,c2,c3,ea]
  refine⟨(k+1,v',H',fp',_),⟨hlt,by simp only;rw[List.take_succ_eq_append_getElem hlt,List.map_append];exact o',nd',fun c hc=>?_,hx1.vF hl' hf' hfp⟩,by simp only;omega,⟨by rw[wN (by omega)];simp[Ag,eP,eM],rfl,rfl⟩⟩
  have:=hN.len;have:=hx1.len
  rcases hm' c hc with g|g|g
  · exact hfp c g
  · have:=bw c (by simpa using g);omega
  · omega
theorem BQ(β:Bool)(l:List cD)(hl:l.length≤1048576)(h:AH):T Tryz.prog Γ Fn.U5 [.vs β 2 false (l.map (cD.c β))] h (aS h [.c (.sl 2 (l.map cD.cd))]):=
  pG aJ aK (fun hw=>QY hw) (by omega) (by simp only[aU];omega) (fun x=>⟨rfl,rfl⟩) (fun x=>(cD.bM false x).symm)
theorem Az(β:Bool)(l:List aM)(hl:l.length≤1048576)(h:AH):T Tryz.prog Γ Fn.Vg [.vs β 3 false (l.map (aM.c β))] h (aS h [.c (.sl 3 (l.map aM.cd))]):=
  pG aJ aK (fun hw=>PX hw) (by omega) (by simp only[aU];omega) (fun x=>⟨rfl,rfl⟩) (fun x=>(aM.bM false x).symm)
theorem nJ(β:Bool)(l:List aH)(hl:l.length≤1048576)(h:AH):T Tryz.prog Γ Fn.OK [.vs β 2 false (l.map (aH.c β))] h (aS h [.c (.sl 2 (l.map aH.cd))]):=
  pG aJ aK (fun hw=>Pb hw) (by omega) (by simp only[aU];omega) (fun x=>⟨rfl,rfl⟩) (fun x=>(aH.bM false x).symm)
theorem C4(β:Bool)(l:List aV)(hl:l.length≤1048576)(h:AH):T Tryz.prog Γ Fn.Vu [.vs β 2 false (l.map (aV.c β))] h (aS h [.c (.sl 2 (l.map aV.cd))]):=
  pG aJ aK (fun hw=>Q4 hw) (by omega) (by simp only[aU];omega) (fun x=>⟨rfl,rfl⟩) (fun x=>(aV.bM false x).symm)
theorem Uw(β:Bool)(e:aE)(he:e.ok 1048576)(h:AH):T Tryz.prog Γ Fn.UT [.agg (e.c β)] h (aS h [.a e.cd]):=by
  refine T.jr ?_
  refine Sj (aD aJ aK [] _ _ _ ?_)
  unfold JZ
  simp only[EZ,ag,Nat.reduceAdd,Nat.reduceBEq,BR,qJ,aF,ER,aE.c]
  refine ah.ref (by simp only[EO]) (sN β e.slots he.1 _) ?_
  rintro w1 H1 fr
  replace fr:aS h _ _ _:=fr
  obtain⟨f1,o1,n1,b1,e1⟩:=fr.c1
  obtain⟨a1a,a1b,a1c,a1d⟩:=o1.cell
  simp only[EZ,ag,Nat.reduceAdd,Nat.reduceBEq,BR,qJ,aF,ER,aE.c,a1a,a1b,a1c]
  refine⟨(by first|exact e1.mem _ _ _|exact cW (e1.mem _ _ _)),?_⟩
  refine ah.ref (by simp only[EO]) (GM β e.queue he.2.1 he.2.2.1 _) ?_
  rintro w2 H2 fr
  replace fr:aS H1 _ _ _:=fr
  obtain⟨f2,o2,n2,b2,e2⟩:=fr.c1
  obtain⟨a2a,a2b,a2c,a2d⟩:=o2.cell
  simp only[EZ,ag,Nat.reduceAdd,Nat.reduceBEq,BR,qJ,aF,ER,aE.c,a1a,a1b,a1c,a2a,a2b,a2c]
  refine⟨(by first|exact e2.mem _ _ _|exact cW (e2.mem _ _ _)),?_⟩
  refine ah.ref (by simp only[EO]) (BQ β e.askers he.2.2.2 _) ?_
  rintro w3 H3 fr
  replace fr:aS H2 _ _ _:=fr
  obtain⟨f3,o3,n3,b3,e3⟩:=fr.c1
  obtain⟨a3a,a3b,a3c,a3d⟩:=o3.cell
  simp only[EZ,ag,Nat.reduceAdd,Nat.reduceBEq,BR,qJ,aF,ER,aE.c,a1a,a1b,a1c,a2a,a2b,a2c,a3a,a3b,a3c]
  have n12:(f1++f2).Nodup:=eI n1 n2 (fun c hc=>o1.lt c hc) b2
  have q1:=(o1.ext e2).ext e3
  have q2:=o2.ext e3
  have hl1:=e1.len
  have hl2:=e2.len
  have n123:((f1++f2)++f3).Nodup:=eI n12 n3 (fun c hc=>by
    rcases List.mem_append.1 hc with g|g
    · have:=o1.lt c g;omega
    · exact o2.lt c g) b3
  obtain⟨N,hN⟩:=((e1.trans e2).trans e3).out
  refine⟨by simp[c7,eH,a1b,a1c,a1d,a2b,a2c,a2d,a3b,a3c,a3d,mP,nM,p0],_,N,f1++(f2++(f3++[])),rfl,hN,?_,by rw[List.append_nil,←List.append_assoc];exact n123,fun c hc=>?_⟩
  · exact .i (.i (.o q1 (.i (.i (.i (.o q2 (.o o3 (.i (.i (.i (.i .nil)))))))))))
  · simp only[List.append_nil,List.mem_append]at hc
    rcases hc with g|g|g
    · exact b1 c g
    · have:=b2 c g;omega
    · have:=b3 c g;omega
theorem SA(β:Bool)(e:aC)(he:e.ok 1048576)(h:AH):T Tryz.prog Γ Fn.Vj [.agg (e.c β)] h (aS h [.a e.cd]):=by
  refine T.jr ?_
  refine PC (aD aJ aK [] _ _ _ ?_)
  unfold LJ
  simp only[EZ,ag,Nat.reduceAdd,Nat.reduceBEq,Bl,qT,aF,ER,aC.c]
  refine ah.ref (by simp only[EO]) (Az β e.exports he.1 _) ?_
  rintro w1 H1 fr
  replace fr:aS h _ _ _:=fr
  obtain⟨f1,o1,n1,b1,e1⟩:=fr.c1
  obtain⟨a1a,a1b,a1c,a1d⟩:=o1.cell
  simp only[EZ,ag,Nat.reduceAdd,Nat.reduceBEq,Bl,qT,aF,ER,aC.c,a1a,a1b,a1c]
  refine⟨(by first|exact e1.mem _ _ _|exact cW (e1.mem _ _ _)),?_⟩
  refine ah.ref (by simp only[EO]) (nJ β e.questions he.2.1 _) ?_
  rintro w2 H2 fr
  replace fr:aS H1 _ _ _:=fr
  obtain⟨f2,o2,n2,b2,e2⟩:=fr.c1
  obtain⟨a2a,a2b,a2c,a2d⟩:=o2.cell
  simp only[EZ,ag,Nat.reduceAdd,Nat.reduceBEq,Bl,qT,aF,ER,aC.c,a1a,a1b,a1c,a2a,a2b,a2c]
  refine⟨(by first|exact e2.mem _ _ _|exact cW (e2.mem _ _ _)),?_⟩
  refine ah.ref (by simp only[EO]) (nJ β e.answers he.2.2 _) ?_
  rintro w3 H3 fr
  replace fr:aS H2 _ _ _:=fr
  obtain⟨f3,o3,n3,b3,e3⟩:=fr.c1
  obtain⟨a3a,a3b,a3c,a3d⟩:=o3.cell
  simp only[EZ,ag,Nat.reduceAdd,Nat.reduceBEq,Bl,qT,aF,ER,aC.c,a1a,a1b,a1c,a2a,a2b,a2c,a3a,a3b,a3c]
  have n12:(f1++f2).Nodup:=eI n1 n2 (fun c hc=>o1.lt c hc) b2
  have q1:=(o1.ext e2).ext e3
  have q2:=o2.ext e3
  have hl1:=e1.len
  have hl2:=e2.len
  have n123:((f1++f2)++f3).Nodup:=eI n12 n3 (fun c hc=>by
    rcases List.mem_append.1 hc with g|g
    · have:=o1.lt c g;omega
    · exact o2.lt c g) b3
  obtain⟨N,hN⟩:=((e1.trans e2).trans e3).out
  refine⟨by simp[c7,eH,a1b,a1c,a1d,a2b,a2c,a2d,a3b,a3c,a3d,mP,nM,p0],_,N,f1++(f2++(f3++[])),rfl,hN,?_,by rw[List.append_nil,←List.append_assoc];exact n123,fun c hc=>?_⟩
  · exact .i (.b (.o q1 (.i (.o q2 (.i (.o o3 .nil))))))
  · simp only[List.append_nil,List.mem_append]at hc
    rcases hc with g|g|g
    · exact b1 c g
    · have:=b2 c g;omega
    · have:=b3 c g;omega
theorem R8(β:Bool)(e:aB)(he:e.ok 1048576)(h:AH):T Tryz.prog Γ Fn.UO [.agg (e.c β)] h (aS h [.a e.cd]):=by
  refine T.jr ?_
  refine Q1 (aD aJ aK [] _ _ _ ?_)
  unfold Nd
  simp only[EZ,ag,Nat.reduceAdd,Nat.reduceBEq,Ic,aF,ER,aB.c]
  refine ah.ref (by simp only[EO]) (C4 β e.args he.2 _) ?_
  rintro w1 H1 fr
  replace fr:aS h _ _ _:=fr
  obtain⟨f1,o1,n1,b1,e1⟩:=fr.c1
  obtain⟨a1a,a1b,a1c,a1d⟩:=o1.cell
  simp only[EZ,ag,Nat.reduceAdd,Nat.reduceBEq,Ic,aF,ER,aB.c,a1a,a1b,a1c]
  obtain⟨N,hN⟩:=e1.out
  refine⟨by simp[c7,eH,a1b,a1c,a1d,mP,nM,p0],_,N,f1++[],rfl,hN,?_,by rw[List.append_nil];exact n1,fun c hc=>b1 c (by simpa using hc)⟩
  exact .i (.i (.i (.i (.s (.o o1 (.i (.i (.i (.i (.i (.i .nil)))))))))))
theorem Mt(β:Bool)(e:aE)(he:e.ok 1048576)(h:AH):T Tryz.prog Γ Fn.OT [.agg (e.c β)] h (aS h [.a e.cd]):=by
  refine T.jr ?_
  refine T7 (aD aJ aK [] _ _ _ ?_)
  unfold J3
  obtain⟨w1,H1,f1,ea1,o1,n1,hf1,hl1,hm1⟩:=kR (bytes:=16) (dK h 2) (by simp) (by omega) (β:=β) (l:=e.slots) (c:=ar.c β) (fun x=>⟨rfl,rfl⟩) (fun x=>(ar.bM false x).symm) (by have:=he.1;simp only[List.length_nil,aU];omega)
  have e1:bQ h H1:=(bQ.app h [some (0,[])]).vF hl1 hf1 (by simp)
  have b1:∀c∈f1,h.length≤c:=fun c hc=>by
    rcases hm1 c hc with g|g
    · simp at g;omega
    · simp at g;omega
  obtain⟨a1a,a1b,a1c,a1d⟩:=o1.cell
  simp only[EZ,ag,Nat.reduceAdd,Nat.reduceBEq,FA,aF,ER,aE.c,EA,ea1,a1a,a1b,a1c]
  refine ah.ref (by simp only[EO]) (HU β e.queue he.2.1 he.2.2.1 _) ?_
  rintro w2 H2 fr
  replace fr:aS H1 _ _ _:=fr
  obtain⟨f2,o2,n2,b2,e2⟩:=fr.c1
  obtain⟨a2a,a2b,a2c,a2d⟩:=o2.cell
  obtain⟨w3,H3,f3,ea3,o3,n3,hf3,hl3,hm3⟩:=kR (bytes:=16) (dK H2 2) (by simp) (by omega) (β:=β) (l:=e.askers) (c:=cD.c β) (fun x=>⟨rfl,rfl⟩) (fun x=>(cD.bM false x).symm) (by have:=he.2.2.2;simp only[List.length_nil,aU];omega)
  have e3:bQ H2 H3:=(bQ.app H2 [some (0,[])]).vF hl3 hf3 (by simp)
  have b3:∀c∈f3,H2.length≤c:=fun c hc=>by
    rcases hm3 c hc with g|g
    · simp at g;omega
    · simp at g;omega
  obtain⟨a3a,a3b,a3c,a3d⟩:=o3.cell
  simp only[EZ,ag,Nat.reduceAdd,Nat.reduceBEq,FA,aF,ER,aE.c,EA,ea1,a1a,a1b,a1c,a2a,a2b,a2c,ea3,a3a,a3b,a3c]
  have n12:(f1++f2).Nodup:=eI n1 n2 (fun c hc=>o1.lt c hc) b2
  have q1:=(o1.ext e2).ext e3
  have q2:=o2.ext e3
  have l1':=e1.len
  have l2':=e2.len
  have n123:((f1++f2)++f3).Nodup:=eI n12 n3 (fun c hc=>by
    rcases List.mem_append.1 hc with g|g
    · have:=o1.lt c g;omega
    · exact o2.lt c g) b3
  obtain⟨N,hN⟩:=((e1.trans e2).trans e3).out
  refine⟨by simp[c7,eH,a1b,a1c,a1d,a2b,a2c,a2d,a3b,a3c,a3d,mP,nM,p0],_,N,f1++(f2++(f3++[])),rfl,hN,?_,by rw[List.append_nil,←List.append_assoc];exact n123,fun c hc=>?_⟩
  · exact .i (.i (.o q1 (.i (.i (.i (.o q2 (.o o3 (.i (.i (.i (.i .nil)))))))))))
  · simp only[List.append_nil,List.mem_append]at hc
    rcases hc with g|g|g
    · exact b1 c g
    · have:=b2 c g;omega
    · have:=b3 c g;omega
theorem FB(β:Bool)(e:aC)(he:e.ok 1048576)(h:AH):T Tryz.prog Γ Fn.OO [.agg (e.c β)] h (aS h [.a e.cd]):=by
  refine T.jr ?_
  refine Rh (aD aJ aK [] _ _ _ ?_)
  unfold KB
  obtain⟨w1,H1,f1,ea1,o1,n1,hf1,hl1,hm1⟩:=kR (bytes:=24) (dK h 3) (by simp) (by omega) (β:=β) (l:=e.exports) (c:=aM.c β) (fun x=>⟨rfl,rfl⟩) (fun x=>(aM.bM false x).symm) (by have:=he.1;simp only[List.length_nil,aU];omega)
  have e1:bQ h H1:=(bQ.app h [some (0,[])]).vF hl1 hf1 (by simp)
  have b1:∀c∈f1,h.length≤c:=fun c hc=>by
    rcases hm1 c hc with g|g
    · simp at g;omega
    · simp at g;omega
  obtain⟨a1a,a1b,a1c,a1d⟩:=o1.cell
  obtain⟨w2,H2,f2,ea2,o2,n2,hf2,hl2,hm2⟩:=kR (bytes:=16) (dK H1 2) (by simp) (by omega) (β:=β) (l:=e.questions) (c:=aH.c β) (fun x=>⟨rfl,rfl⟩) (fun x=>(aH.bM false x).symm) (by have:=he.2.1;simp only[List.length_nil,aU];omega)
  have e2:bQ H1 H2:=(bQ.app H1 [some (0,[])]).vF hl2 hf2 (by simp)
  have b2:∀c∈f2,H1.length≤c:=fun c hc=>by
    rcases hm2 c hc with g|g
    · simp at g;omega
    · simp at g;omega
  obtain⟨a2a,a2b,a2c,a2d⟩:=o2.cell
  obtain⟨w3,H3,f3,ea3,o3,n3,hf3,hl3,hm3⟩:=kR (bytes:=16) (dK H2 2) (by simp) (by omega) (β:=β) (l:=e.answers) (c:=aH.c β) (fun x=>⟨rfl,rfl⟩) (fun x=>(aH.bM false x).symm) (by have:=he.2.2;simp only[List.length_nil,aU];omega)
  have e3:bQ H2 H3:=(bQ.app H2 [some (0,[])]).vF hl3 hf3 (by simp)
  have b3:∀c∈f3,H2.length≤c:=fun c hc=>by
    rcases hm3 c hc with g|g
    · simp at g;omega
    · simp at g;omega
  obtain⟨a3a,a3b,a3c,a3d⟩:=o3.cell
  simp only[EZ,ag,Nat.reduceAdd,Nat.reduceBEq,M3,aF,ER,aC.c,EA,ea1,a1a,a1b,a1c,ea2,a2a,a2b,a2c,ea3,a3a,a3b,a3c]
  have n12:(f1++f2).Nodup:=eI n1 n2 (fun c hc=>o1.lt c hc) b2
  have q1:=(o1.ext e2).ext e3
  have q2:=o2.ext e3
  have l1':=e1.len
  have l2':=e2.len
  have n123:((f1++f2)++f3).Nodup:=eI n12 n3 (fun c hc=>by
    rcases List.mem_append.1 hc with g|g
    · have:=o1.lt c g;omega
    · exact o2.lt c g) b3
  obtain⟨N,hN⟩:=((e1.trans e2).trans e3).out
  refine⟨by simp[c7,eH,a1b,a1c,a1d,a2b,a2c,a2d,a3b,a3c,a3d,mP,nM,p0],_,N,f1++(f2++(f3++[])),rfl,hN,?_,by rw[List.append_nil,←List.append_assoc];exact n123,fun c hc=>?_⟩
  · exact .i (.b (.o q1 (.i (.o q2 (.i (.o o3 .nil))))))
  · simp only[List.append_nil,List.mem_append]at hc
    rcases hc with g|g|g
    · exact b1 c g
    · have:=b2 c g;omega
    · have:=b3 c g;omega
theorem Tc(β:Bool)(e:aB)(he:e.ok 1048576)(h:AH):T Tryz.prog Γ Fn.UQ [.agg (e.c β)] h (aS h [.a e.cd]):=by
  refine T.jr ?_
  refine Pt (aD aJ aK [] _ _ _ ?_)
  unfold Lf
  obtain⟨w1,H1,f1,ea1,o1,n1,hf1,hl1,hm1⟩:=kR (bytes:=16) (dK h 2) (by simp) (by omega) (β:=β) (l:=e.args) (c:=aV.c β) (fun x=>⟨rfl,rfl⟩) (fun x=>(aV.bM false x).symm) (by have:=he.2;simp only[List.length_nil,aU];omega)
  have e1:bQ h H1:=(bQ.app h [some (0,[])]).vF hl1 hf1 (by simp)
  have b1:∀c∈f1,h.length≤c:=fun c hc=>by
    rcases hm1 c hc with g|g
    · simp at g;omega
    · simp at g;omega
  obtain⟨a1a,a1b,a1c,a1d⟩:=o1.cell
  simp only[EZ,ag,Nat.reduceAdd,Nat.reduceBEq,K1,aF,ER,aB.c,EA,ea1,a1a,a1b,a1c]
  obtain⟨N,hN⟩:=e1.out
  refine⟨by simp[c7,eH,a1b,a1c,a1d,mP,nM,p0],_,N,f1++[],rfl,hN,?_,by rw[List.append_nil];exact n1,fun c hc=>b1 c (by simpa using hc)⟩
  exact .i (.i (.i (.i (.s (.o o1 (.i (.i (.i (.i (.i (.i .nil)))))))))))
end Go.Proofs.YtccjhmhkfnnmaaaGreat
namespace Go.Proofs.YtccjhmhkfnnmaaaGreat
open Go.AM
variable {Γ:cj}
theorem Tu(β:Bool)(x:aM)(en:Int)(H:AH){k:Nat}(hk:bJ H k=some (0,[.int .i64 en])):T Tryz.prog Γ Fn.U0 [.agg (x.c β),.gp k 0 0] H fun v h'=>v=.bool (x.entity == en)∧h'=H:=by
  refine UB (aD aJ aK [] _ _ _ ?_)
  unfold J8
  have hc:∀(e:List AV) (l:List (List AV)) (off n:Nat),(St.mk e l H).cells (.gp k 0 off) n=sub [.int .i64 en] off n:=fun e l off n=>bk hk
  simp only[EZ,ag,Nat.reduceAdd,Nat.reduceBEq,Lc,aM.c,hc]
  first|exact⟨rfl,rfl⟩|exact rfl
theorem SN(β:Bool)(l:aC)(hl:l.exports.length≤1048576)(en:Int)(H:AH){p:AV}(hp:Ptr H p (l.c β)):
    T Tryz.prog Γ Fn.UP [p,.int .i64 en] H fun v h'=>v=.int .i64 (dI (fun x:aM=>x.entity == en) l.exports)∧h'=H:=by
  refine(?_:T Tryz.prog Γ Fn.UP _ H fun v h'=>v=.int .i64 (dI (fun x:aM=>x.entity == en) l.exports)∧∃N,h'=H++N).drop (by rintro v h' ⟨rfl,N,rfl⟩;exact⟨N,rfl,.int _ _,rfl,rfl⟩)
  refine Pu (aD aJ aK [3] _ _ _ ?_)
  unfold Kx
  have hp':∀N,Ptr (H++N) p (l.c β):=fun N=>hp.grow N
  simp only[EZ,ag,Nat.reduceAdd,Nat.reduceBEq,Gf,pQ _ _ (show List.all [AV.int .i64 en] bo=true from rfl),g9,hp.nil,hp.fld,(hp' [some (0,[.int .i64 en])]).rd,aC.iZ,Nat.reduceLeDiff,aC.c]
  have hcall:=i5 (P:=Tryz.prog) (Γ:=Γ) aJ aK (sz:=3) (agg:=true) (fun hw=>KS hw) (β:=β) (l:=l.exports) (c:=aM.c β) (by omega) (fun x=>⟨⟨rfl,.inl rfl⟩,rfl⟩) (g:=Fn.U0) (first:=[]) (caps:=[.gp H.length 0 0]) rfl (fun x:aM=>x.entity == en) (h:=H++[some (0,[.int .i64 en])]) (fun x hx=>Tu β x en _ (cw _ _))
  refine ah.val (by simp only[EO]) hcall ?_
  simp only[EZ,ag,Nat.reduceAdd,Nat.reduceBEq,Gf]
  exact⟨rfl,_,rfl⟩
def df(l:aC)(e:Int):aC×Int:=
  if 0≤dI (fun x:aM=>x.entity == e) l.exports then
    (let k:=(dI (fun x:aM=>x.entity == e) l.exports).toNat
     ({ l with exports:=l.exports.set k { l.exports.getD k default with count:=IntKind.i64.wrap ((l.exports.getD k default).count+1) } },(l.exports.getD k default).pos))
  else ({ l with next:=IntKind.i64.wrap (l.next+1),exports:=l.exports++[⟨IntKind.i64.wrap (l.next+1),e,1⟩] },IntKind.i64.wrap (l.next+1))
theorem rg{l:aC}{e:Int}{k:Nat}(hk:k<l.exports.length)(h:dI (fun x:aM=>x.entity == e) l.exports=(k:Int)):
    df l e=({ l with exports:=l.exports.set k { l.exports[k]with count:=IntKind.i64.wrap (l.exports[k].count+1) } },l.exports[k].pos):=by
  unfold df
  rw[h,if_pos (by omega)]
  simp[List.getD_eq_getElem?_getD,hk]
theorem nH{l:aC}{e:Int}(h:dI (fun x:aM=>x.entity == e) l.exports = -1):
    df l e=({ l with next:=IntKind.i64.wrap (l.next+1),exports:=l.exports++[⟨IntKind.i64.wrap (l.next+1),e,1⟩] },IntKind.i64.wrap (l.next+1)):=by
  unfold df;rw[h,if_neg (by omega)]
theorem Cq{H:AH}{w:AV}{sz:Nat}{xs:List (List CD)}{fp:List Nat}(o:bN H w (.sl sz xs) fp)(nd:fp.Nodup){k:Nat}(hk:k<xs.length){b g:Nat}(hi:eJ sz w (k:Int)=some (.gp b g (k*sz))):
    ∃az f,(∀(e:List AV) (L:List (List AV)),(St.mk e L H).cells (.gp b g (k*sz)) sz=some az)∧
      (∀(e:List AV) (L:List (List AV)) (off n:Nat),off+n≤sz→(St.mk e L H).cells (.gp b g (k*sz+off)) n=sub az off n)∧aO H az xs[k] f∧f.Nodup∧(∀c∈f,c∈fp)∧az.length=sz:=by
  obtain⟨b',g',az,f,e1,_,_,e2,e3,e4,e5,e6,e7⟩:=o.row nd hk
  have:=hi.symm.trans e1
  simp only[Option.some.injEq,AV.gp.injEq]at this
  obtain⟨rfl,rfl,_⟩:=this
  exact⟨az,f,e2,e3,e4,e5,e6,e7⟩
theorem db{H:AH}{row:List AV}{l:aC}{f:List Nat}(o:aO H row l.cd f):∃wX w4 w6 fX f4 f6,row=[.int .i64 l.peer,.bool l.up,wX,.int .i64 l.next,w4,.int .i64 l.asked,w6]∧f=fX++(f4++f6)∧bN H wX (.sl 3 (l.exports.map aM.cd)) fX∧bN H w4 (.sl 2 (l.questions.map aH.cd)) f4∧bN H w6 (.sl 2 (l.answers.map aH.cd)) f6:=by
  simp only[aC.cd,gI,gD,hU,jP,jm]at o
  obtain⟨_,_,_,_,rfl,rfl,⟨rfl,rfl⟩,⟨_,_,_,_,rfl,rfl,⟨rfl,rfl⟩,⟨wX,_,fX,_,rfl,rfl,oX,⟨_,_,_,_,rfl,rfl,⟨rfl,rfl⟩,⟨w4,_,f4,_,rfl,rfl,o4,⟨_,_,_,_,rfl,rfl,⟨rfl,rfl⟩,⟨w6,_,f6,_,rfl,rfl,o6,⟨rfl,rfl⟩⟩⟩⟩⟩⟩⟩⟩:=o
  exact⟨wX,w4,w6,fX,f4,f6,rfl,by simp,oX,o4,o6⟩
theorem il{H:AH}{l:aC}{wX w4 w6:AV}{fX f4 f6:List Nat}(oX:bN H wX (.sl 3 (l.exports.map aM.cd)) fX)(o4:bN H w4 (.sl 2 (l.questions.map aH.cd)) f4)(o6:bN H w6 (.sl 2 (l.answers.map aH.cd)) f6):
    aO H [.int .i64 l.peer,.bool l.up,wX,.int .i64 l.next,w4,.int .i64 l.asked,w6] l.cd (fX++(f4++f6)):=by
  have e:f6=f6++[]:=by simp
  rw[e]
  exact .i (.b (.o oX (.i (.o o4 (.i (.o o6 .nil))))))
set_option maxHeartbeats 1000000 in
theorem Sf(l:aC)(hl:l.exports.length≤1048576)(en:Int)(H:AH){b g:Nat}{pre row post:List AV}{f:List Nat}(m:pO H b g pre row post)(o:aO H row l.cd f)(nd:f.Nodup)(hb:b∉f):
    T Tryz.prog Γ Fn.VT [.gp b g pre.length,.int .i64 en] H fun v h'=>v=.int .i64 (df l en).2∧H.length≤h'.length∧∃row' f',pO h' b g pre row' post∧aO h' row' (df l en).1.cd f'∧f'.Nodup∧(∀c∈f',c∈f∨H.length≤c)∧(∀c,c∉f→c≠b→c<H.length→h'[c]? = H[c]?):=by
  have sn:=m.snap (aO.dT (aC.bM true _) o)
  have bl:=m.lt
  obtain⟨wX,w4,w6,fX,f4,f6,rfl,rfl,oX,o4,o6⟩:=db o
  obtain⟨nX,n46,dX⟩:=List.nodup_append.1 nd
  have f0':∀o':Nat,md 0 (.gp b g o')=some (.gp b g o'):=fun _=>rfl
  have f2':md 2 (.gp b g pre.length)=some (.gp b g (pre.length+2)):=rfl
  have f3':md 3 (.gp b g pre.length)=some (.gp b g (pre.length+3)):=rfl
  have m2:∀(e:List AV) (L:List (List AV)),(St.mk e L H).cells (.gp b g (pre.length+2)) 1=some [wX]:=fun e L=>m.cells e L 2 1 (by simp)
  have m3:∀(e:List AV) (L:List (List AV)),(St.mk e L H).cells (.gp b g (pre.length+3)) 1=some [.int .i64 l.next]:=fun e L=>m.cells e L 3 1 (by simp)
  refine Sy (aD aJ aK [] _ _ _ ?_)
  unfold Ki
  simp only[EZ,ag,Nat.reduceAdd,Nat.reduceBEq,BA,qI]
  refine ah.dT (by simp only[EO]) (aI sn (aI (.same _) bm)) (fun h=>SN true l hl en h (Ptr.ip h true _)) (.int _ _) ?_
  obtain⟨cX1,cX2,cX3,cX4⟩:=oX.cell
  rcases eQ (fun x:aM=>x.entity == en) l.exports with⟨k,hk,e1,e2,e3⟩|⟨e1,e2,e3⟩
  · have pe:=rg hk e1
    have hkm:k<(l.exports.map aM.cd).length:=by simpa using hk
    obtain⟨bX,gX,a,fa,i0,blX,bmX,rd,oa,na,ma,ba,st⟩:=oX.lens nX hkm (off:=2) (by omega) (by simp[aM.cd])
    simp only[List.getElem_map,aM.cd,List.getElem_cons_succ,List.getElem_cons_zero,hU]at oa
    obtain⟨rfl,rfl⟩:=oa
    obtain⟨H2,fp2,s1,o2,n2,mm2,l2,r2⟩:=st H (.int .i64 (IntKind.i64.wrap (l.exports[k].count+1))) (.i .i64 (IntKind.i64.wrap (l.exports[k].count+1))) [] (.i _ _) (by simp) (by simp) (fun _ _ _=>rfl)
    have bne:bX≠b:=fun e=>hb (by rw[←e];simp[bmX])
    have mH:=m.frame (r2 b (Ne.symm bne))
    have m2':∀(e:List AV) (L:List (List AV)),(St.mk e L H2).cells (.gp b g (pre.length+2)) 1=some [wX]:=fun e L=>mH.cells e L 2 1 (by simp)
    have mfp:∀c∈fp2,c∈fX:=fun c hc=>(mm2 c hc).elim id (by simp)
    have hk2:k<((l.exports.map aM.cd).set k (((l.exports.map aM.cd)[k]).set 2 (.i .i64 (IntKind.i64.wrap (l.exports[k].count+1))))).length:=by simpa using hk
    obtain⟨az,fz,_,rz,oz,_,_,lz⟩:=Cq o2 n2 hk2 i0
    have oo:=oz
    simp only[List.getElem_set_self,List.getElem_map,aM.cd,List.set_cons_succ,List.set_cons_zero,gI,gD,hU]at oo
    obtain⟨_,_,_,_,ez,_,⟨rfl,rfl⟩,_⟩:=oo
    subst ez
    have rp:∀(e:List AV) (L:List (List AV)),(St.mk e L H2).cells (.gp bX gX (k*3)) 1=some [.int .i64 l.exports[k].pos]:=fun e L=>by
      have:=rz e L 0 1 (by omega);rw[Nat.add_zero]at this;rw[this];simp[sub]
    have fX2:md 2 (.gp bX gX (k*3))=some (.gp bX gX (k*3+2)):=rfl
    have fX0:md 0 (.gp bX gX (k*3))=some (.gp bX gX (k*3)):=rfl
    simp only[EZ,ag,Nat.reduceAdd,Nat.reduceBEq,BA,qI,e1,decide_eq_true (show(k:Int)≥0 by omega),f2',m2,i0,fX2,fX0,rd,s1,m2',rp]
    have key:(((l.exports.map aM.cd).set k (((l.exports.map aM.cd)[k]).set 2 (.i .i64 (IntKind.i64.wrap (l.exports[k].count+1))))))=(df l en).1.exports.map aM.cd:=by
      rw[pe,List.map_set];simp[aM.cd]
    rw[key]at o2
    refine⟨rfl,by rw[pe],by omega,_,fp2++(f4++f6),mH,?_,List.nodup_append.2 ⟨n2,n46,fun x hx y hy=>dX x (mfp x hx) y hy⟩,fun c hc=>?_,fun c hc hcb hcl=>r2 c (fun e=>hc (by rw[e];simp[bmX]))⟩
    · have o4':=o4.frame (h':=H2) fun c hc=>r2 c (fun e=>dX bX bmX c (by simp[hc]) e.symm)
      have o6':=o6.frame (h':=H2) fun c hc=>r2 c (fun e=>dX bX bmX c (by simp[hc]) e.symm)
      have:=il (l:=(df l en).1) o2 (by rw[pe];exact o4') (by rw[pe];exact o6')
      rw[pe]at this ⊢
      exact this
    · rcases List.mem_append.1 hc with g|g
      · exact .inl (List.mem_append_left _ (mfp c g))
      · exact .inl (List.mem_append_right _ g)
  · have pe:=nH (l:=l) (e:=en) e1
    obtain⟨H1,s1,m1,l1,r1⟩:=m.store (i:=3) (vs:=[.int .i64 (IntKind.i64.wrap (l.next+1))]) (by simp) rfl
    have ov:cB [.int .i64 l.peer,.bool l.up,wX,.int .i64 l.next,w4,.int .i64 l.asked,w6] 3 [.int .i64 (IntKind.i64.wrap (l.next+1))]=[.int .i64 l.peer,.bool l.up,wX,.int .i64 (IntKind.i64.wrap (l.next+1)),w4,.int .i64 l.asked,w6]:=rfl
    rw[ov]at m1
    have oX1:=oX.frame (h':=H1) fun c hc=>r1 c (fun e=>hb (by rw[←e];simp[hc]))
    have q2:∀(e:List AV) (L:List (List AV)),(St.mk e L H1).cells (.gp b g (pre.length+2)) 1=some [wX]:=fun e L=>m1.cells e L 2 1 (by simp)
    have q3:∀(e:List AV) (L:List (List AV)),(St.mk e L H1).cells (.gp b g (pre.length+3)) 1=some [.int .i64 (IntKind.i64.wrap (l.next+1))]:=fun e L=>m1.cells e L 3 1 (by simp)
    obtain⟨v',H',fp',ea,o',nd',hf',hl',hm'⟩:=dw (bytes:=24) oX1 (ys:=[.int .i64 (IntKind.i64.wrap (l.next+1)),.int .i64 en,.int .i64 1]) (row:=[.i .i64 (IntKind.i64.wrap (l.next+1)),.i .i64 en,.i .i64 1]) (f2:=[]) (by simpa using nX) (by omega) rfl (.i (.i (.i .nil))) (by simp only[List.length_map,aU];omega)
    obtain⟨cv1,cv2,cv3,cv4⟩:=o'.cell
    have mH:=m1.frame (hf' b (fun h=>hb (by simp[h])) (by omega))
    have hbv:b∉fp':=fun h=>by
      rcases hm' b h with g|g|g
      · exact hb (by simp[g])
      · simp at g
      · omega
    obtain⟨H3,s3,m3',l3,r3⟩:=mH.store (i:=2) (vs:=[v']) (by simp) (by simp only[jv,jz,cv3,Bool.and_self])
    have Vc:cB [.int .i64 l.peer,.bool l.up,wX,.int .i64 (IntKind.i64.wrap (l.next+1)),w4,.int .i64 l.asked,w6] 2 [v']=[.int .i64 l.peer,.bool l.up,v',.int .i64 (IntKind.i64.wrap (l.next+1)),w4,.int .i64 l.asked,w6]:=rfl
    rw[Vc]at m3'
    have q4:∀(e:List AV) (L:List (List AV)),(St.mk e L H3).cells (.gp b g (pre.length+3)) 1=some [.int .i64 (IntKind.i64.wrap (l.next+1))]:=fun e L=>m3'.cells e L 3 1 (by simp)
    simp only[EZ,ag,Nat.reduceAdd,Nat.reduceBEq,BA,qI,EA,e1,show decide ((-1:Int)≥0)=false from rfl,f2',f3',m3,s1,q2,q3,kb,Aq,A6,At]
    simp only[EZ,ag,Nat.reduceAdd,Nat.reduceBEq,BA,qI,EA,ea,s3,q4,cv1,cv2,cv3]
    have ap:∀c∈f4++f6,H3[c]? = H[c]?:=fun c hc=>by
      have h1:c<H.length:=by
        rcases List.mem_append.1 hc with g|g
        · exact o4.lt c g
        · exact o6.lt c g
      have h2:c≠b:=fun e=>hb (by rw[←e];exact List.mem_append_right _ hc)
      rw[r3 c h2,hf' c (fun h=>dX c h c hc rfl) (by omega),r1 c h2]
    have o4':=o4.frame (h':=H3) fun c hc=>ap c (by simp[hc])
    have o6':=o6.frame (h':=H3) fun c hc=>ap c (by simp[hc])
    have oX3:=o'.frame (h':=H3) fun c hc=>r3 c (fun e=>hbv (by rw[←e];exact hc))
    refine⟨rfl,by rw[pe],by omega,_,fp'++(f4++f6),m3',?_,List.nodup_append.2 ⟨nd',n46,fun x hx y hy e=>?_⟩,fun c hc=>?_,fun c hc hcb hcl=>?_⟩
    · rw[pe]
      exact il (l:={ l with next:=IntKind.i64.wrap (l.next+1),exports:=l.exports++[⟨IntKind.i64.wrap (l.next+1),en,1⟩] }) (by simpa[aM.cd]using oX3) o4' o6'
    · subst e
      rcases hm' x hx with g|g|g
      · exact dX x g x hy rfl
      · simp at g
      · rcases List.mem_append.1 hy with q|q
        · have:=o4.lt x q;omega
        · have:=o6.lt x q;omega
    · rcases List.mem_append.1 hc with g|g
      · rcases hm' c g with q|q|q
        · exact .inl (List.mem_append_left _ q)
        · simp at q
        · exact .inr (by omega)
      · exact .inl (List.mem_append_right _ g)
    · rw[r3 c hcb,hf' c (fun h=>hc (List.mem_append_left _ h)) (by omega),r1 c hcb]
end Go.Proofs.YtccjhmhkfnnmaaaGreat
namespace Go.Proofs.YtccjhmhkfnnmaaaGreat
open Go.AM
variable {Γ:cj}
set_option maxHeartbeats 1000000 in
theorem HN(β:Bool)(l:aC)(hl:l.ok 1048576)(en:Int)(h:AH):T Tryz.prog Γ Fn.N8 [.agg (l.c β),.int .i64 en] h (aS h [.a (df l en).1.cd,.c (.i .i64 (df l en).2)]):=by
  have hle:=hl.1
  have L0:=dN β 3 false l.exports (aM.c β)
  refine T.tW rfl ?_
  refine Uu (aD aJ aK [] _ _ _ ?_)
  unfold MM
  simp only[EZ,ag,Nat.reduceAdd,Nat.reduceBEq,tp,kv,kA,kq,aF,ER,aC.c]
  refine ah.ref (by simp only[EO]) (FB β l hl _) ?_
  rintro _ H1 fr
  replace fr:aS h _ _ _:=fr
  obtain⟨aw,fw,rfl,ow,nw,bw,ew⟩:=fr.a1
  obtain⟨wX,w4,w6,fX,f4,f6,rfl,rfl,oX,o4,o6⟩:=db ow
  obtain⟨nX,n46,dX⟩:=List.nodup_append.1 nw
  obtain⟨a1,a2,a3,a4⟩:=oX.cell
  obtain⟨b1,b2,b3,b4⟩:=o4.cell
  obtain⟨c1,c2,c3,c4⟩:=o6.cell
  obtain⟨N1,hN1⟩:=ew.out
  simp only[EZ,ag,Nat.reduceAdd,Nat.reduceBEq,tp,kv,kA,kq,aF,ER,aC.c,a1,a2,a3,b1,b2,b3,c1,c2,c3]
  refine dD aJ aK [] (fun k:Nat=>k≤l.exports.length∧∀(i:Nat) (hi:i<l.exports.length),i<k→(l.exports[i].entity == en)=false) (fun k=>l.exports.length-k)
    (fun k=>Aj (.int .i64 en) (.lp ([]:List (List AV)).length 0) (.lp (([]:List (List AV)).length+1) 0) (.lp (([]:List (List AV)).length+2) 0) (.int .i64 k) (([]:List (List AV))++[l.c β,[.int .i64 0,.bool false,.nils,.int .i64 0,.nils,.int .i64 0,.nils],[.int .i64 l.peer,.bool l.up,wX,.int .i64 l.next,w4,.int .i64 l.asked,w6]]) H1) 0 ⟨by omega,fun i hi h=>by omega⟩ ⟨by simp[Aj,eP,eM],rfl,rfl⟩ ?_
  rintro k ⟨hk,ht⟩
  simp only[EZ,ag,Nat.reduceAdd,Nat.reduceBEq,tp,kv,kA,kq,Aj,aF,ER,aC.c,L0]
  refine bI (fun hlt=>?_) (fun hge=>?_)
  · have hlt:k<l.exports.length:=by simpa using hlt
    have i0:=dy (β:=β) (sz:=3) (ex:=false) (ce:=aM.c β) hlt
    cases hp:l.exports[k].entity == en
    · simp only[EZ,ag,Nat.reduceAdd,Nat.reduceBEq,tp,kv,kA,kq,aF,ER,i0,aM.c,hp]
      exact⟨k+1,⟨hlt,mc (P:=fun x:aM=>(x.entity == en)=false) ht hp⟩,by omega,⟨by rw[wN (by omega)];simp[Aj,aC.c,eP,eM],rfl,rfl⟩⟩
    · have pe:=rg hlt (kJ (p:=fun x:aM=>x.entity == en) hlt ht hp)
      have hkm:k<(l.exports.map aM.cd).length:=by simpa using hlt
      obtain⟨bX,gX,a,fa,i1,blX,bmX,rd,oa,na,ma,ba,st⟩:=oX.lens nX hkm (off:=2) (by omega) (by simp[aM.cd])
      simp only[List.getElem_map,aM.cd,List.getElem_cons_succ,List.getElem_cons_zero,hU]at oa
      obtain⟨rfl,rfl⟩:=oa
      obtain⟨H2,fp2,s1,o2,n2,mm2,l2,r2⟩:=st H1 (.int .i64 (IntKind.i64.wrap (l.exports[k].count+1))) (.i .i64 (IntKind.i64.wrap (l.exports[k].count+1))) [] (.i _ _) (by simp) (by simp) (fun _ _ _=>rfl)
      have mfp:∀c∈fp2,c∈fX:=fun c hc=>(mm2 c hc).elim id (by simp)
      have fX2:md 2 (.gp bX gX (k*3))=some (.gp bX gX (k*3+2)):=rfl
      simp only[EZ,ag,Nat.reduceAdd,Nat.reduceBEq,tp,kv,kA,kq,aF,ER,i0,aM.c,hp,i1,fX2,s1]
      simp only[EZ,ag,Nat.reduceAdd,Nat.reduceBEq,tp,kv,kA,kq,aF,ER,i0,aM.c,a1,a2,a3,b1,b2,b3,c1,c2,c3]
      have key:(((l.exports.map aM.cd).set k (((l.exports.map aM.cd)[k]).set 2 (.i .i64 (IntKind.i64.wrap (l.exports[k].count+1))))))=(df l en).1.exports.map aM.cd:=by
        rw[pe,List.map_set];simp[aM.cd]
      rw[key]at o2
      have o4':=o4.frame (h':=H2) fun c hc=>r2 c (fun e=>dX bX bmX c (by simp[hc]) e.symm)
      have o6':=o6.frame (h':=H2) fun c hc=>r2 c (fun e=>dX bX bmX c (by simp[hc]) e.symm)
      have own:=il (l:=(df l en).1) o2 (by rw[pe];exact o4') (by rw[pe];exact o6')
      have hx:=ew.vF (show H1.length≤H2.length by omega) (fun c hc _=>r2 c (fun e=>hc (by rw[e];exact bmX))) (fun c hc=>bw c (List.mem_append_left _ hc))
      obtain⟨N,hN⟩:=hx.out
      refine⟨Bb 1 rfl,by simp only[List.all_cons,List.all_nil,EO,a3,b3,c3],_,N,fp2++(f4++f6),by rw[pe,CD.fb],hN,by rw[pe]at own ⊢;exact own,List.nodup_append.2 ⟨n2,n46,fun x hx y hy=>dX x (mfp x hx) y hy⟩,fun c hc=>?_⟩
      rcases List.mem_append.1 hc with g|g
      · exact bw c (List.mem_append_left _ (mfp c g))
      · exact bw c (List.mem_append_right _ g)
  have hge:k=l.exports.length:=by simp at hge;omega
  subst hge
  have pe:=nH (l:=l) (e:=en) (kh (p:=fun x:aM=>x.entity == en) fun i hi=>ht i hi hi)
  obtain⟨v',H',fp',ea,o',nd',hf',hl',hm'⟩:=dw (bytes:=24) oX (ys:=[.int .i64 (IntKind.i64.wrap (l.next+1)),.int .i64 en,.int .i64 1]) (row:=[.i .i64 (IntKind.i64.wrap (l.next+1)),.i .i64 en,.i .i64 1]) (f2:=[]) (by simpa using nX) (by omega) rfl (.i (.i (.i .nil))) (by simp only[List.length_map,aU];omega)
  obtain⟨e1,e2,e3,e4⟩:=o'.cell
  simp only[EZ,ag,Nat.reduceAdd,Nat.reduceBEq,tp,kv,kA,kq,EA,aF,ER,kb,Aq,A6,At,ea,a1,a2,a3,b1,b2,b3,c1,c2,c3,e1,e2,e3]
  have ap:∀c∈f4++f6,H'[c]? = H1[c]?:=fun c hc=>hf' c (fun h=>dX c h c hc rfl) (by
    rcases List.mem_append.1 hc with g|g
    · exact o4.lt c g
    · exact o6.lt c g)
  have o4':=o4.frame (h':=H') fun c hc=>ap c (by simp[hc])
  have o6':=o6.frame (h':=H') fun c hc=>ap c (by simp[hc])
  have hx:=ew.vF hl' hf' (fun c hc=>bw c (List.mem_append_left _ hc))
  obtain⟨N,hN⟩:=hx.out
  have el:=ew.len
  refine⟨Bb 1 rfl,by simp only[List.all_cons,List.all_nil,EO,e3,b3,c3],_,N,fp'++(f4++f6),by rw[pe,CD.fb],hN,?_,List.nodup_append.2 ⟨nd',n46,fun x hx y hy e=>?_⟩,fun c hc=>?_⟩
  · rw[pe]
    exact il (l:={ l with next:=IntKind.i64.wrap (l.next+1),exports:=l.exports++[⟨IntKind.i64.wrap (l.next+1),en,1⟩] }) (by simpa[aM.cd]using o') o4' o6'
  · subst e
    rcases hm' x hx with g|g|g
    · exact dX x g x hy rfl
    · simp at g
    · rcases List.mem_append.1 hy with q|q
      · have:=o4.lt x q;omega
      · have:=o6.lt x q;omega
  · rcases List.mem_append.1 hc with g|g
    · rcases hm' c g with q|q|q
      · exact bw c (List.mem_append_left _ q)
      · simp at q
      · omega
    · exact bw c (List.mem_append_right _ g)
end Go.Proofs.YtccjhmhkfnnmaaaGreat
namespace Go.Proofs.YtccjhmhkfnnmaaaGreat
open Go.AM
variable {Γ:cj}
end Go.Proofs.YtccjhmhkfnnmaaaGreat
namespace Go.Proofs.YtccjhmhkfnnmaaaGreat
open Go.AM
variable {Γ:cj}
def zL:List AV:=[.int .i64 0,.bool false,.nils,.int .i64 0,.nils,.int .i64 0,.nils]
def NP(l:aC)(e:Int):Int:=match l.exports.find? (fun x=>x.entity == e)with|some x=>x.pos|none=>0
def jK(l:aC)(p:Int):aC×Int:=({ l with asked:=IntKind.i64.wrap (l.asked+1),questions:=l.questions++[⟨IntKind.i64.wrap (l.asked+1),p⟩] },IntKind.i64.wrap (l.asked+1))
end Go.Proofs.YtccjhmhkfnnmaaaGreat
namespace Go.Proofs.YtccjhmhkfnnmaaaGreat
open Go.AM
variable {Γ:cj}
set_option maxHeartbeats 1000000 in
theorem JF(β:Bool)(l:aC)(hl:l.ok 1048576)(en:Int)(h:AH):T Tryz.prog Γ Fn.OH [.agg (l.c β),.int .i64 en] h (aS h [.a (jK l en).1.cd,.c (.i .i64 (jK l en).2)]):=by
  refine T.tW rfl ?_
  refine SE (aD aJ aK [] _ _ _ ?_)
  unfold KV
  simp only[EZ,ag,Nat.reduceAdd,Nat.reduceBEq,Hr,BZ,aF,ER,aC.c]
  refine ah.ref (by simp only[EO]) (FB β l hl _) ?_
  rintro _ H1 fr
  replace fr:aS h _ _ _:=fr
  obtain⟨aw,fw,rfl,ow,nw,bw,ew⟩:=fr.a1
  obtain⟨wX,w4,w6,fX,f4,f6,rfl,rfl,oX,o4,o6⟩:=db ow
  obtain⟨nX,n46,dX⟩:=List.nodup_append.1 nw
  obtain⟨n4,n6,d46⟩:=List.nodup_append.1 n46
  obtain⟨a1,a2,a3,a4⟩:=oX.cell
  obtain⟨b1,b2,b3,b4⟩:=o4.cell
  obtain⟨c1,c2,c3,c4⟩:=o6.cell
  have hl2:=hl.2.1
  obtain⟨v',H',fp',ea,o',nd',hf',hl',hm'⟩:=dw (bytes:=16) o4 (ys:=[.int .i64 (IntKind.i64.wrap (l.asked+1)),.int .i64 en]) (row:=[.i .i64 (IntKind.i64.wrap (l.asked+1)),.i .i64 en]) (f2:=[]) (by simpa using n4) (by omega) rfl (.i (.i .nil)) (by simp only[List.length_map,aU];omega)
  obtain⟨e1,e2,e3,e4⟩:=o'.cell
  simp only[EZ,ag,Nat.reduceAdd,Nat.reduceBEq,Hr,BZ,EA,aF,ER,aC.c,kb,Aq,A6,At,a1,a2,a3,b1,b2,b3,c1,c2,c3,ea,e1,e2,e3]
  have ap:∀c∈fX++f6,H'[c]? = H1[c]?:=fun c hc=>hf' c (fun h4=>by
    rcases List.mem_append.1 hc with g|g
    · exact dX c g c (by simp[h4]) rfl
    · exact d46 c h4 c g rfl) (by
    rcases List.mem_append.1 hc with g|g
    · exact oX.lt c g
    · exact o6.lt c g)
  have oX':=oX.frame (h':=H') fun c hc=>ap c (by simp[hc])
  have o6':=o6.frame (h':=H') fun c hc=>ap c (by simp[hc])
  have hx:=ew.vF hl' hf' (fun c hc=>bw c (by simp[hc]))
  obtain⟨N,hN⟩:=hx.out
  have el:=ew.len
  refine⟨Bb 1 rfl,by simp only[List.all_cons,List.all_nil,EO,a3,e3,c3],_,N,fX++(fp'++f6),by rw[CD.fb];rfl,hN,?_,List.nodup_append.2 ⟨nX,List.nodup_append.2 ⟨nd',n6,fun x hx y hy e=>?_⟩,fun x hx y hy e=>?_⟩,fun c hc=>?_⟩
  · exact il (l:=(jK l en).1) oX' (by simpa[jK,aH.cd]using o') o6'
  · subst e
    rcases hm' x hx with g|g|g
    · exact d46 x g x hy rfl
    · simp at g
    · have:=o6.lt x hy;omega
  · subst e
    rcases List.mem_append.1 hy with q|q
    · rcases hm' x q with g|g|g
      · exact dX x hx x (by simp[g]) rfl
      · simp at g
      · have:=oX.lt x hx;omega
    · exact dX x hx x (by simp[q]) rfl
  · simp only[List.mem_append]at hc
    rcases hc with q|q|q
    · exact bw c (by simp[q])
    · rcases hm' c q with g|g|g
      · exact bw c (by simp[g])
      · simp at g
      · omega
    · exact bw c (by simp[q])
def CV(l:aC)(pos c:Int):aC:=
  if c<1 then l else if dI (fun x:aM=>x.pos == pos) l.exports<0 then l else
    (let k:=(dI (fun x:aM=>x.pos == pos) l.exports).toNat
     if IntKind.i64.wrap ((l.exports.getD k default).count-c)<1 then { l with exports:=l.exports.eraseIdx k }
     else { l with exports:=l.exports.set k { l.exports.getD k default with count:=IntKind.i64.wrap ((l.exports.getD k default).count-c) } })
theorem Ez{l:aC}{pos c:Int}(h:c<1):CV l pos c=l:=by unfold CV;rw[if_pos h]
theorem Hh{l:aC}{pos c:Int}(h:dI (fun x:aM=>x.pos == pos) l.exports = -1):CV l pos c=l:=by unfold CV;rw[h];split<;>rfl
theorem Oe{l:aC}{pos c:Int}(hc:¬c<1){k:Nat}(hk:k<l.exports.length)(h:dI (fun x:aM=>x.pos == pos) l.exports=(k:Int)):
    CV l pos c=if IntKind.i64.wrap (l.exports[k].count-c)<1 then { l with exports:=l.exports.eraseIdx k }else { l with exports:=l.exports.set k { l.exports[k]with count:=IntKind.i64.wrap (l.exports[k].count-c) } }:=by
  unfold CV
  rw[if_neg hc,h,if_neg (by omega)]
  simp[List.getD_eq_getElem?_getD,hk]
end Go.Proofs.YtccjhmhkfnnmaaaGreat
