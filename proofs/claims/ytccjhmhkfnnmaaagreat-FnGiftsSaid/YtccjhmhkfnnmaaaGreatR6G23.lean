import Derived.Test.YtccjhmhkfnnmaaaGreatR6G22
import Derived.Test.YtccjhmhkfnnmaaaGreatAmG9
import Derived.Test.YtccjhmhkfnnmaaaGreatR6G17
import Derived.Test.YtccjhmhkfnnmaaaGreatAmG12
import Derived.Test.YtccjhmhkfnnmaaaGreatR6G21
set_option linter.unusedVariables false
set_option linter.unusedSimpArgs false
namespace Go.Proofs.YtccjhmhkfnnmaaaGreat
open Go.AM
variable {Γ:cj}
set_option maxHeartbeats 16000000 in
set_option maxRecDepth 100000 in
theorem GS(β:Bool)(m:aB)(hn:m.name.size≤1048576)(ha:m.args.length≤1048576)(h:AH):T Tryz.prog Γ Fn.Rv [.agg (m.c β)] h fun v h'=>(∃b,v=.bool b)∧h'=h:=by
  have L0:=dN β 2 false m.args (aV.c β)
  refine Ti (aD aJ aK [] _ _ _ ?_)
  unfold Lo
  simp only[EZ,ag,Nat.reduceAdd,Nat.reduceBEq,iM,aF,aP,aB.c,L0,ae,an,eS,eX]
  repeat' (first
    | (guard_target =~ ah _ _ Fn.EE _ _ _;refine ah.val (by simp only[EO]) (KT _ _) ?_;simp only[EZ,ag,Nat.reduceAdd,Nat.reduceBEq,iM,aF,aP,aB.c,L0,ae,an,eS,eX])
    | (guard_target =~ ah _ _ Fn.ke _ _ _;refine ah.val (by simp only[EO]) (dH _ _ _ _) ?_;simp only[EZ,ag,Nat.reduceAdd,Nat.reduceBEq,iM,aF,aP,aB.c,L0,ae,an,eS,eX])
    | (guard_target =~ ah _ _ Fn.OW _ _ _;refine ah.val (by simp only[EO]) (yd _ hn _) ?_;simp only[EZ,ag,Nat.reduceAdd,Nat.reduceBEq,iM,aF,aP,aB.c,L0,ae,an,eS,eX])
    | (guard_target =~ ah _ _ Fn.N9 _ _ _;refine ah.val (by simp only[EO]) (Ej β m.value _) ?_;simp only[EZ,ag,Nat.reduceAdd,Nat.reduceBEq,iM,aF,aP,aB.c,L0,ae,an,eS,eX])
    | (refine ny (fun hh=>?_) (fun hh=>?_)<;>simp only[EZ,ag,Nat.reduceAdd,Nat.reduceBEq,iM,aF,aP,aB.c,L0,ae,an,eS,eX,hh])
    | (refine mb (fun hh=>?_) (fun hh=>?_)<;>simp only[EZ,ag,Nat.reduceAdd,Nat.reduceBEq,iM,aF,aP,aB.c,L0,ae,an,eS,eX,hh])
    | (refine bI (fun hh=>?_) (fun hh=>?_)<;>simp only[EZ,ag,Nat.reduceAdd,Nat.reduceBEq,iM,aF,aP,aB.c,L0,ae,an,eS,eX,hh])
    | exact⟨Iu _,_,rfl⟩|exact⟨⟨_,rfl⟩,rfl⟩|exact⟨_,rfl⟩|fail)
  all_goals
    refine dD aJ aK [] (fun k:Nat=>k≤m.args.length) (fun k=>m.args.length-k) (fun k=>Cv (.lp ([]:List (List AV)).length 0) (.lp (([]:List (List AV)).length+1) 0) (.int .i64 k) (([]:List (List AV))++[m.c β,[.int .i64 0,.int .i64 0]]) h) 0 (Nat.zero_le _) ⟨by simp[Cv,eP,eM],rfl,rfl⟩ ?_
    rintro k hk
    simp only[EZ,ag,Nat.reduceAdd,Nat.reduceBEq,iM,Cv,aF,aP,aB.c,L0,ae,an,eS,eX]
    refine bI (fun hlt=>?_) (fun hge=>?_)
    · have hlt:k<m.args.length:=by simpa using hlt
      have i0:=dy (β:=β) (sz:=2) (ex:=false) (ce:=aV.c β) hlt
      simp only[EZ,ag,Nat.reduceAdd,Nat.reduceBEq,iM,aF,aP,aB.c,L0,ae,an,eS,eX,i0,aV.c]
      refine ah.val (by simp only[EO]) (Ej β m.args[k] _) ?_
      cases Cd m.args[k]
      · simp only[EZ,ag,Nat.reduceAdd,Nat.reduceBEq,iM,aF,aP,aB.c,L0,ae,an,eS,eX]
        exact⟨Iu _,_,rfl⟩
      · simp only[EZ,ag,Nat.reduceAdd,Nat.reduceBEq,iM,aF,aP,aB.c,L0,ae,an,eS,eX]
        exact⟨k+1,hlt,by omega,⟨by rw[wN (by omega)];simp[eP,eM],rfl,rfl⟩⟩
    clear hge
    simp only[EZ,ag,Nat.reduceAdd,Nat.reduceBEq,iM,aF,aP,aB.c,L0,ae,an,eS,eX]
    repeat' (first
      | (guard_target =~ ah _ _ Fn.EE _ _ _;refine ah.val (by simp only[EO]) (KT _ _) ?_;simp only[EZ,ag,Nat.reduceAdd,Nat.reduceBEq,iM,aF,aP,aB.c,L0,ae,an,eS,eX])
      | (guard_target =~ ah _ _ Fn.ke _ _ _;refine ah.val (by simp only[EO]) (dH _ _ _ _) ?_;simp only[EZ,ag,Nat.reduceAdd,Nat.reduceBEq,iM,aF,aP,aB.c,L0,ae,an,eS,eX])
      | (guard_target =~ ah _ _ Fn.OW _ _ _;refine ah.val (by simp only[EO]) (yd _ hn _) ?_;simp only[EZ,ag,Nat.reduceAdd,Nat.reduceBEq,iM,aF,aP,aB.c,L0,ae,an,eS,eX])
      | (guard_target =~ ah _ _ Fn.N9 _ _ _;refine ah.val (by simp only[EO]) (Ej β m.value _) ?_;simp only[EZ,ag,Nat.reduceAdd,Nat.reduceBEq,iM,aF,aP,aB.c,L0,ae,an,eS,eX])
      | (refine ny (fun hh=>?_) (fun hh=>?_)<;>simp only[EZ,ag,Nat.reduceAdd,Nat.reduceBEq,iM,aF,aP,aB.c,L0,ae,an,eS,eX,hh])
      | (refine mb (fun hh=>?_) (fun hh=>?_)<;>simp only[EZ,ag,Nat.reduceAdd,Nat.reduceBEq,iM,aF,aP,aB.c,L0,ae,an,eS,eX,hh])
      | (refine bI (fun hh=>?_) (fun hh=>?_)<;>simp only[EZ,ag,Nat.reduceAdd,Nat.reduceBEq,iM,aF,aP,aB.c,L0,ae,an,eS,eX,hh])
      | exact⟨Iu _,_,rfl⟩|exact⟨⟨_,rfl⟩,rfl⟩|exact⟨_,rfl⟩|fail)
end Go.Proofs.YtccjhmhkfnnmaaaGreat
namespace Go.Proofs.YtccjhmhkfnnmaaaGreat
open Go.AM
variable {Γ:cj}
structure Fr (v v':aA):Prop where
  aq:v'.aq=v.aq
  out:v'.out=v.out
  ents:wE v'=wE v
  mu:jj v'=jj v
  w:wV v'=wV v
  len:v.entities.length≤v'.entities.length
  vi:VI v→VI v'
theorem Fr.refl(v:aA):Fr v v:=⟨rfl,rfl,rfl,rfl,rfl,Nat.le_refl _,id⟩
theorem Fr.trans{a b c:aA}(h:Fr a b)(k:Fr b c):Fr a c:=⟨k.aq.trans h.aq,k.out.trans h.out,k.ents.trans h.ents,k.mu.trans h.mu,k.w.trans h.w,Nat.le_trans h.len k.len,fun x=>k.vi (h.vi x)⟩
theorem Be(v:aA):wV v=wE v+v.out.length+(v.aq.map vG).sum:=rfl
theorem Fr.count{v:aA}{n:Int}(hn:dU n v.entities.length=true):Fr v (fI v n.toNat (gv (aT v n))):=by
  have b1:=nu hn (gv (aT v n))
  have b2:=pB hn (gv (aT v n))
  have g1:jB (gv (aT v n))=jB (aT v n):=rfl
  have g2:vJ (gv (aT v n))=vJ (aT v n):=rfl
  have e:=Be v
  have e':=Be (fI v n.toNat (gv (aT v n)))
  have l1:(fI v n.toNat (gv (aT v n))).aq=v.aq:=rfl
  have l2:(fI v n.toNat (gv (aT v n))).out=v.out:=rfl
  rw[l1,l2]at e'
  exact⟨rfl,rfl,by omega,by omega,by omega,by rw[ie];exact Nat.le_refl _,fun h=>j8 h _ _ (gj h n)⟩
theorem Fr.add(v:aA){x:aE}(h1:x.slots.length≤100)(h2:x.queue=[])(h3:x.askers=[])(h4:vJ x=0):Fr v (fW v x):=by
  unfold fW
  split
  · exact .refl v
  · rename_i hl
    have hx:jB x=0:=by simp[jB,h2,h3,pq]
    have e1:wE { v with entities:=v.entities++[x] }=wE v:=by simp[wE,hx]
    refine⟨rfl,rfl,e1,by simp[jj,h4],by rw[Be,e1,Be],by simp,fun h=>⟨by simp only[List.length_append,List.length_cons,List.length_nil];omega,h.loop,h.aq,h.ans,fun y hy=>?_,h.lps,h.outs⟩⟩
    rcases List.mem_append.1 hy with g|g
    · exact h.en y g
    · rw[List.mem_singleton.1 g];exact⟨h1,fun s hs=>by rw[h2]at hs;cases hs⟩
theorem LB.fr{K r:Nat}{v v':aA}(h:LB K r v)(f:Fr v v'):LB K r v':=by
  obtain⟨N,h1,h2,h3⟩:=h
  exact⟨N,by rw[f.aq];exact h1,by rw[f.ents];exact h2,by rw[f.aq];exact h3⟩
theorem IS{α:Type}{p:α→Bool}{l:List α}(h:¬dI p l<0):dU (dI p l) l.length=true:=by
  rcases eQ p l with⟨k,hk,e,_,_⟩|⟨e,_,_⟩
  · rw[e];simp[dU,hk]
  · rw[e]at h;omega
set_option maxHeartbeats 8000000 in
set_option maxRecDepth 100000 in
theorem Ln(v:aA)(hvi:VI v)(hw:wV v≤400000)(peer:Int)(β:Bool)(w:aV)(H:AH){b:Nat}{f:List Nat}(a:js H b v f):
    T Tryz.prog Γ Fn.UY [.gp b 0 0,.int .i64 peer,.agg (w.c β)] H fun r H'=>∃v' x,r=.agg (ar.c false x)∧Fr v v'∧gU H b (fun c=>c∈f) H' v':=by
  obtain⟨wE,w2,wL,w4,fE,f2,fL,f4,rfl,o⟩:=a
  have hE:v.entities.length≤1048576:=by have:=hvi.ents;omega
  have hL:v.aq.length≤1048576:=by have:=hvi.aq;omega
  have hb:=o.hb
  have blt:=o.blt
  have cb:∀(e:List AV) (L:List (List AV)) (off n:Nat),(St.mk e L H).cells (.gp b 0 off) n=sub [.int .i64 v.id,wE,w2,wL,w4] off n:=fun e L off n=>bk hb
  obtain⟨a1,a2,a3,a4⟩:=o.oE.cell
  obtain⟨b1,b2,b3,b4⟩:=o.o2.cell
  obtain⟨c1,c2,c3,c4⟩:=o.oL.cell
  obtain⟨d1,d2,d3,d4⟩:=o.o4.cell
  have same:gU H b (fun c=>c∈gB fE f2 fL f4) H v:=gU.refl o.at fun c hc=>hc
  have fin:∀x:ar,c7 (AV.agg [.int .i64 x.kind,.int .i64 x.n])=true∧∃v' y,(AV.agg [.int .i64 x.kind,.int .i64 x.n])=.agg [.int .i64 (ar.kind y),.int .i64 y.n]∧Fr v v'∧gU H b (fun c=>c∈gB fE f2 fL f4) H v':=fun x=>⟨rfl,v,x,rfl,.refl v,same⟩
  refine Po (aD aJ aK [] _ _ _ ?_)
  unfold M6
  simp only[EZ,ag,Nat.reduceAdd,Nat.reduceBEq,gA,cY,cS,cX,cQ,aF,aV.c,ar.c,ae,cb,a1,a2,a3,b1,b2,b3,c1,c2,c3,d1,d2,d3]
  refine ah.val (by simp only[EO]) (Ej false w _) ?_
  cases hw1:Cd w
  · simp only[EZ,ag,Nat.reduceAdd,Nat.reduceBEq,gA,cY,cS,cX,cQ,aF,aV.c,ar.c,ae,cb,a1,a2,a3,b1,b2,b3,c1,c2,c3,d1,d2,d3]
    refine ah.val (by simp only[EO]) (qD _) ?_
    simp only[EZ,ag,Nat.reduceAdd,Nat.reduceBEq,gA,cY,cS,cX,cQ,aF,aV.c,ar.c,ae,cb,a1,a2,a3,b1,b2,b3,c1,c2,c3,d1,d2,d3,c6]
    exact fin ⟨2,0⟩
  by_cases k0:w.kind=0
  · simp only[EZ,ag,Nat.reduceAdd,Nat.reduceBEq,gA,cY,cS,cX,cQ,aF,aV.c,ar.c,ae,cb,a1,a2,a3,b1,b2,b3,c1,c2,c3,d1,d2,d3,decide_eq_true k0]
    refine ah.ref (by simp only[EO]) (D6 w.n _) ?_
    rintro _ H1 ⟨⟨x,rfl⟩,e⟩
    replace e:H1=H:=e
    subst e
    simp only[EZ,ag,Nat.reduceAdd,Nat.reduceBEq,gA,cY,cS,cX,cQ,aF,aV.c,ar.c,ae,cb,a1,a2,a3,b1,b2,b3,c1,c2,c3,d1,d2,d3]
    exact fin ⟨0,x⟩
  by_cases k3:w.kind=3
  · simp only[EZ,ag,Nat.reduceAdd,Nat.reduceBEq,gA,cY,cS,cX,cQ,aF,aV.c,ar.c,ae,cb,a1,a2,a3,b1,b2,b3,c1,c2,c3,d1,d2,d3,decide_eq_false k0,decide_eq_true k3]
    refine ah.val (by simp only[EO]) (qD _) ?_
    simp only[EZ,ag,Nat.reduceAdd,Nat.reduceBEq,gA,cY,cS,cX,cQ,aF,aV.c,ar.c,ae,cb,a1,a2,a3,b1,b2,b3,c1,c2,c3,d1,d2,d3,c6]
    exact fin ⟨2,0⟩
  simp only[EZ,ag,Nat.reduceAdd,Nat.reduceBEq,gA,cY,cS,cX,cQ,aF,aV.c,ar.c,ae,cb,a1,a2,a3,b1,b2,b3,c1,c2,c3,d1,d2,d3,decide_eq_false k0,decide_eq_false k3]
  refine ah.dT (by simp only[EO,a3,b3,c3,d3]) (aI (aO.dT (aA.bM true v) o.own) (aI (.same _) bm)) (fun h=>i6 true v hL peer h) (.bool _) ?_
  cases hu:ki v.aq peer
  · simp only[EZ,ag,Nat.reduceAdd,Nat.reduceBEq,gA,cY,cS,cX,cQ,aF,aV.c,ar.c,ae,cb,a1,a2,a3,b1,b2,b3,c1,c2,c3,d1,d2,d3]
    refine ah.val (by simp only[EO]) (qD _) ?_
    simp only[EZ,ag,Nat.reduceAdd,Nat.reduceBEq,gA,cY,cS,cX,cQ,aF,aV.c,ar.c,ae,cb,a1,a2,a3,b1,b2,b3,c1,c2,c3,d1,d2,d3,c6]
    exact fin ⟨2,0⟩
  obtain⟨k,hk,ek,ef⟩:=jU hu
  by_cases k2:w.kind=2
  · simp only[EZ,ag,Nat.reduceAdd,Nat.reduceBEq,gA,cY,cS,cX,cQ,aF,aV.c,ar.c,ae,cb,a1,a2,a3,b1,b2,b3,c1,c2,c3,d1,d2,d3,decide_eq_true k2]
    refine ah.dT (by simp only[EO,a3,b3,c3,d3]) (aI (aO.dT (aA.bM true v) o.own) (aI (.same _) bm)) (fun h=>lf true v hL peer h) (.int _ _) ?_
    rw[ek]
    refine⟨j9 fun r hr=>by
      simp only[List.mem_cons,List.not_mem_nil,or_false]at hr
      rcases hr with rfl|rfl<;>first|exact .inl ⟨_,_,rfl⟩|exact .inr ⟨_,_,_,rfl,rfl⟩,?_⟩
    obtain⟨bL,gL,n,row,f0,iL,rL,oR,_,_,_⟩:=o.B0 hk
    have hlx:v.aq[k].exports.length≤1048576:=by have:=FN (List.getElem_mem hk);unfold vG at this;omega
    obtain⟨wX,wQ,wA,fX,fQ,fA,rfl,rfl,oX,oQ,oA⟩:=db oR
    obtain⟨x1,x2,x3,x4⟩:=oX.cell
    obtain⟨y1,y2,y3,y4⟩:=oQ.cell
    obtain⟨z1,z2,z3,z4⟩:=oA.cell
    simp only[EZ,ag,Nat.reduceAdd,Nat.reduceBEq,gA,cY,cS,cX,cQ,aF,aV.c,ar.c,ae,cb,a1,a2,a3,b1,b2,b3,c1,c2,c3,d1,d2,d3,iL,rL,x1,x2,x3,y1,y2,y3,z1,z2,z3]
    refine ah.dT (by simp only[EO,x3,y3,z3]) (aI (aO.dT (aC.bM true v.aq[k]) oR) (aI (.same _) bm)) (fun h=>tr true v.aq[k] hlx w.n h) (.int _ _) ?_
    by_cases kn:dq v.aq[k].exports w.n<0
    · simp only[EZ,ag,Nat.reduceAdd,Nat.reduceBEq,gA,cY,cS,cX,cQ,aF,aV.c,ar.c,ae,cb,a1,a2,a3,b1,b2,b3,c1,c2,c3,d1,d2,d3,decide_eq_true kn]
      refine ah.val (by simp only[EO]) (qD _) ?_
      simp only[EZ,ag,Nat.reduceAdd,Nat.reduceBEq,gA,cY,cS,cX,cQ,aF,aV.c,ar.c,ae,cb,a1,a2,a3,b1,b2,b3,c1,c2,c3,d1,d2,d3,c6]
      exact fin ⟨2,0⟩
    simp only[EZ,ag,Nat.reduceAdd,Nat.reduceBEq,gA,cY,cS,cX,cQ,aF,aV.c,ar.c,ae,cb,a1,a2,a3,b1,b2,b3,c1,c2,c3,d1,d2,d3,decide_eq_false kn]
    refine ah.val (by simp only[EO]) (sZ _ _) ?_
    refine⟨j9 fun r hr=>by
      simp only[List.mem_cons,List.not_mem_nil,or_false]at hr
      subst hr;first|exact .inl ⟨_,_,rfl⟩|exact .inr ⟨_,_,_,rfl,rfl⟩,?_⟩
    simp only[EZ,ag,Nat.reduceAdd,Nat.reduceBEq,gA,cY,cS,cX,cQ,aF,aV.c,ar.c,ae,cb,a1,a2,a3,b1,b2,b3,c1,c2,c3,d1,d2,d3]
    refine ah.dT (by simp only[EO,a3,b3,c3,d3]) (aI (aO.dT (aA.bM true v) o.own) (aI (.same _) bm)) (fun h=>mJ true v hE ⟨1,dq v.aq[k].exports w.n⟩ h) (.agg _ (by intro z hz;simp only[ar.c,List.mem_cons,List.not_mem_nil,or_false]at hz;rcases hz with rfl|rfl<;>exact .int _ _)) ?_
    simp only[EZ,ag,Nat.reduceAdd,Nat.reduceBEq,gA,cY,cS,cX,cQ,aF,aV.c,ar.c,ae,cb,a1,a2,a3,b1,b2,b3,c1,c2,c3,d1,d2,d3]
    exact fin (eK v ⟨1,dq v.aq[k].exports w.n⟩)
  simp only[EZ,ag,Nat.reduceAdd,Nat.reduceBEq,gA,cY,cS,cX,cQ,aF,aV.c,ar.c,ae,cb,a1,a2,a3,b1,b2,b3,c1,c2,c3,d1,d2,d3,decide_eq_false k2]
  refine ah.dT (by simp only[EO,a3,b3,c3,d3]) (aI (aO.dT (aA.bM true v) o.own) (aI (.same _) (aI (.same _) bm))) (fun h=>UG true v hE peer w.n h) (.int _ _) ?_
  by_cases kp:dI (jC peer w.n) v.entities<0
  rotate_left
  · have hE1:=IS kp
    obtain⟨j,hj,ej,ej2,ej3⟩:=gg hE1
    simp only[EZ,ag,Nat.reduceAdd,Nat.reduceBEq,gA,cY,cS,cX,cQ,aF,aV.c,ar.c,ae,cb,a1,a2,a3,b1,b2,b3,c1,c2,c3,d1,d2,d3,show decide (dI (jC peer w.n) v.entities≥0)=true from decide_eq_true (by omega)]
    obtain⟨bS,gS,nS,row2,fT,iS,rS,lS,oS2,nfT,sT,bmS,bnS,wrS⟩:=o.iy hj
    obtain⟨e1,he1⟩:∃e1,e1=aT v (dI (jC peer w.n) v.entities):=⟨_,rfl⟩
    rw[←ej3,←he1]at oS2
    obtain⟨wS2,wQ2,wA2,fS2,fQ2,fA2,rfl,rfl,oSS,oQQ,oAA⟩:=et oS2
    obtain⟨rd2,H2,f2',s2,l2'',r2,o2,m2⟩:=wrS H 10 [.int .i64 (IntKind.i64.wrap (e1.count+1))] (gv e1) (fS2++(fQ2++fA2)) [] (Nat.le_refl _) (fun c hc=>by cases hc) (fun _ _ _ _=>rfl) (by simp) rfl
      (by
        have:=iQ (e:=gv e1) oSS oQQ oAA
        exact this) nfT (fun c hc=>.inl hc)
    have rd10:∀(e:List AV) (L:List (List AV)),(St.mk e L H).cells (.gp bS gS (nS+10)) 1=some [.int .i64 e1.count]:=fun e L=>(rd2 e L 10 1).resolve_right (by omega)
    have iS':eJ 12 wE (dI (jC peer w.n) v.entities)=some (.gp bS gS nS):=by rw[ej];exact iS
    simp only[EZ,ag,Nat.reduceAdd,Nat.reduceBEq,gA,cY,cS,cX,cQ,aF,aP,EF,aV.c,ar.c,ae,cb,a1,a2,a3,b1,b2,b3,c1,c2,c3,d1,d2,d3,iS',rd10,s2]
    refine ah.val (by simp only[EO]) (sZ _ _) ?_
    simp only[EZ,ag,Nat.reduceAdd,Nat.reduceBEq,gA,cY,cS,cX,cQ,aF,aP,EF,aV.c,ar.c,ae,cb,a1,a2,a3,b1,b2,b3,c1,c2,c3,d1,d2,d3]
    have ev:({ v with entities:=v.entities.set j (gv e1) }:aA)=fI v (dI (jC peer w.n) v.entities).toNat (gv e1):=by rw[fI,ej2]
    rw[ev]at o2
    refine⟨rfl,_,⟨1,dI (jC peer w.n) v.entities⟩,rfl,by rw[he1];exact Fr.count hE1,f2',o2,by omega,fun c hc=>by
      rcases m2 c hc with⟨g,_⟩|g
      · exact .inl g
      · exact .inl (bU.2 (.inl (sT c g))),fun c h1 h2 h3=>r2 c (fun e=>h1 (bU.2 (.inl (e▸bmS))))⟩
  simp only[EZ,ag,Nat.reduceAdd,Nat.reduceBEq,gA,cY,cS,cX,cQ,aF,aV.c,ar.c,ae,cb,a1,a2,a3,b1,b2,b3,c1,c2,c3,d1,d2,d3,show decide (dI (jC peer w.n) v.entities≥0)=false from decide_eq_false (by omega)]
  refine ah.val (by simp only[EO]) (Gu _ _ _) ?_
  simp only[EZ,ag,Nat.reduceAdd,Nat.reduceBEq,gA,cY,cS,cX,cQ,aF,aV.c,ar.c,ae,cb,a1,a2,a3,b1,b2,b3,c1,c2,c3,d1,d2,d3]
  refine ah.ref (by simp only[EO,kl]) (Gi v (jV peer w.n) H o.at (rK H peer w.n) List.nodup_nil (fun c hc=>by cases hc)) ?_
  rintro _ H1 ⟨rfl,u⟩
  replace u:gU H b (fun c=>c∈gB fE f2 fL f4∨c∈[]) H1 _:=u
  have fin2:∀x:ar,c7 (AV.agg [.int .i64 x.kind,.int .i64 x.n])=true∧∃v' y,(AV.agg [.int .i64 x.kind,.int .i64 x.n])=.agg [.int .i64 (ar.kind y),.int .i64 y.n]∧Fr v v'∧gU H b (fun c=>c∈gB fE f2 fL f4) H1 v':=fun x=>⟨rfl,_,x,rfl,.add v (x:=jV peer w.n) (Nat.zero_le _) rfl rfl rfl,u.mono fun c hc=>hc.elim id fun h=>by cases h⟩
  by_cases ka:lO v<0
  · simp only[EZ,ag,Nat.reduceAdd,Nat.reduceBEq,gA,cY,cS,cX,cQ,aF,aV.c,ar.c,ae,cb,a1,a2,a3,b1,b2,b3,c1,c2,c3,d1,d2,d3,decide_eq_true ka]
    refine ah.val (by simp only[EO]) (qD _) ?_
    simp only[EZ,ag,Nat.reduceAdd,Nat.reduceBEq,gA,cY,cS,cX,cQ,aF,aV.c,ar.c,ae,cb,a1,a2,a3,b1,b2,b3,c1,c2,c3,d1,d2,d3,c6]
    exact fin2 ⟨2,0⟩
  simp only[EZ,ag,Nat.reduceAdd,Nat.reduceBEq,gA,cY,cS,cX,cQ,aF,aV.c,ar.c,ae,cb,a1,a2,a3,b1,b2,b3,c1,c2,c3,d1,d2,d3,decide_eq_false ka]
  refine ah.val (by simp only[EO]) (sZ _ _) ?_
  simp only[EZ,ag,Nat.reduceAdd,Nat.reduceBEq,gA,cY,cS,cX,cQ,aF,aV.c,ar.c,ae,cb,a1,a2,a3,b1,b2,b3,c1,c2,c3,d1,d2,d3]
  exact fin2 ⟨1,lO v⟩
end Go.Proofs.YtccjhmhkfnnmaaaGreat
namespace Go.Proofs.YtccjhmhkfnnmaaaGreat
open Go.AM
variable {Γ:cj}
set_option maxHeartbeats 4000000 in
theorem PK(v:aA)(hvi:VI v)(hw:wV v≤400000)(peer:Int)(β:Bool)(l:List aV)(hl:l.length≤1048576)(H:AH){b:Nat}{f:List Nat}(a:js H b v f):
    T Tryz.prog Γ Fn.VM [.gp b 0 0,.int .i64 peer,.vs β 2 false (l.map (aV.c β))] H fun r H'=>∃(v':aA) (xs:List ar) (fx f':List Nat),Fr v v'∧bN H' r (.sl 2 (xs.map ar.cd)) fx∧fx.Nodup∧xs.length=l.length∧js H' b v' f'∧H.length≤H'.length∧(∀c∈f',c∈f∨H.length≤c)∧(∀c∈fx,H.length≤c∧c∉f')∧∀c,c∉f→c≠b→c<H.length→H'[c]? = H[c]?:=by
  have L0:=dN β 2 false l (aV.c β)
  obtain⟨q1,q2,q3,q4⟩:=a.lt
  refine Rz (aD aJ aK [] _ _ _ ?_)
  unfold Jy
  simp only[EZ,ag,Nat.reduceAdd,Nat.reduceBEq,zQ,EA]
  refine dD aJ aK [] (fun x:Nat×AV×AH×List Nat×List Nat×aA×List ar×List (List AV)=>x.1≤l.length∧x.2.2.2.2.2.2.1.length=x.1∧js x.2.2.1 b x.2.2.2.2.2.1 x.2.2.2.1∧Fr v x.2.2.2.2.2.1∧bN x.2.2.1 x.2.1 (.sl 2 (x.2.2.2.2.2.2.1.map ar.cd)) x.2.2.2.2.1∧x.2.2.2.2.1.Nodup∧H.length≤x.2.2.1.length∧(∀c∈x.2.2.2.1,c∈f∨H.length≤c)∧(∀c∈x.2.2.2.2.1,H.length≤c∧c∉x.2.2.2.1)∧(∀c,c∉f→c≠b→c<H.length→x.2.2.1[c]? = H[c]?)) (fun x=>l.length-x.1)
    (fun x=>A5 (.gp b 0 0) (.int .i64 peer) (.vs β 2 false (l.map (aV.c β))) x.2.1 (.int .i64 x.1) x.2.2.2.2.2.2.2 x.2.2.1) (0,.gs H.length 0 0 0 0 2 true,H++[some (0,[])],f,[H.length],v,[],[])
    ⟨by simp,rfl,a.frame fun c hc=>List.getElem?_append_left (by rcases hc with g|g;exact q1 c g;rw[g];exact q2),.refl v,dK H 2,by simp,by simp,fun c hc=>.inl hc,fun c hc=>by rw[List.mem_singleton.1 hc];exact⟨Nat.le_refl _,fun g=>by have:=q1 _ g;omega⟩,fun c _ _ h=>List.getElem?_append_left h⟩ ⟨by simp[A5,eP,eM],rfl,rfl⟩ ?_
  rintro⟨k,w,H1,f1,fw,v1,xs,M⟩ ⟨hk,hx,ha,hF,ho,nd,hl1,m1,mw,r1⟩
  simp only at hk hx ha hF ho nd hl1 m1 mw r1
  simp only[EZ,ag,Nat.reduceAdd,Nat.reduceBEq,zQ,A5,L0]
  refine bI (fun hlt=>?_) (fun hge=>?_)
  rotate_left
  · have hge:k=l.length:=by simp at hge;omega
    subst hge
    obtain⟨ca,cb,cc,cd⟩:=ho.cell
    simp only[EZ,ag,Nat.reduceAdd,Nat.reduceBEq,zQ,ca,cb,cc]
    exact⟨ho.c7,v1,xs,fw,f1,hF,ho,nd,hx,ha,hl1,m1,mw,r1⟩
  have hlt:k<l.length:=by simpa using hlt
  have i0:=dy (β:=β) (sz:=2) (ex:=false) (ce:=aV.c β) hlt
  obtain⟨x,hxx⟩:∃x,x=l[k]:=⟨_,rfl⟩
  rw[←hxx]at i0
  obtain⟨ca,cb,cc,cd⟩:=ho.cell
  simp only[EZ,ag,Nat.reduceAdd,Nat.reduceBEq,zQ,i0,aV.c,ca,cb,cc]
  refine ah.ref (by simp only[EO]) (Ln v1 (hF.vi hvi) (by rw[hF.w];exact hw) peer β x H1 ha) ?_
  rintro r H2 ⟨v2,y,rfl,F2,f2,a2,l2,m2,r2⟩
  replace l2:H1.length≤H2.length:=l2
  replace a2:js H2 b v2 f2:=a2
  replace m2:∀c∈f2,c∈f1∨H1.length≤c:=m2
  replace r2:∀c,c∉f1→c≠b→c<H1.length→H2[c]? = H1[c]?:=r2
  obtain⟨p1,p2,p3,p4⟩:=a2.lt
  have o2:bN H2 w (.sl 2 (xs.map ar.cd)) fw:=ho.frame fun c hc=>r2 c (mw c hc).2 (fun e=>by have:=(mw c hc).1;omega) (ho.lt c hc)
  obtain⟨v',H',fp',ea,o',nd',hf',hl',hm'⟩:=dw (bytes:=16) o2 (ys:=[.int .i64 y.kind,.int .i64 y.n]) (row:=[.i .i64 y.kind,.i .i64 y.n]) (f2:=[]) (by simpa using nd) (by omega) rfl (.i (.i .nil)) (by simp only[List.length_map,aU];omega)
  simp only[EZ,ag,Nat.reduceAdd,Nat.reduceBEq,zQ,EA,ar.c,ca,cb,cc,ea]
  have old:∀c∈fw,c∉f2∧c≠b:=fun c hw=>by
    refine⟨fun h=>?_,fun e=>by have:=(mw c hw).1;omega⟩
    rcases m2 c h with q|q
    · exact(mw c hw).2 q
    · have:=ho.lt c hw;omega
  refine⟨(k+1,v',H',f2,fp',v2,xs++[y],_),⟨hlt,by simp[hx],a2.frame fun c hc=>hf' c (fun hw=>by rcases hc with g|g;exact(old c hw).1 g;exact(old c hw).2 g) (by rcases hc with g|g;exact p1 c g;rw[g];exact p2),hF.trans F2,by simp only;rw[List.map_append];exact o',nd',by simp only;omega,fun c hc=>?_,fun c hc=>?_,fun c h1 h2 h3=>?_⟩,by simp only;omega,⟨by rw[wN (by omega)];simp[A5,eP,eM],rfl,rfl⟩⟩
  · rcases m2 c hc with g|g
    · exact m1 c g
    · exact .inr (by omega)
  · rcases hm' c hc with g|g|g
    · exact⟨(mw c g).1,fun h=>(old c g).1 h⟩
    · simp at g
    · exact⟨by omega,fun h=>by have:=p1 c h;omega⟩
  · simp only
    rw[hf' c (fun g=>by have:=(mw c g).1;omega) (by omega),r2 c (fun g=>by rcases m1 c g with q|q;exact h1 q;omega) h2 (by omega),r1 c h1 h2 h3]
end Go.Proofs.YtccjhmhkfnnmaaaGreat
namespace Go.Proofs.YtccjhmhkfnnmaaaGreat
open Go.AM
variable {Γ:cj}
def nh(l:aC)(m:aB):Bool:=decide (dq l.exports m.pos<0) && (!decide (m.pos=0) || decide (mh l.answers m.answer<0))
theorem QD(β β':Bool)(l:aC)(hl:l.ok 1048576)(m:aB)(h:AH):T Tryz.prog Γ Fn.U6 [.agg (l.c β),.agg (m.c β')] h fun r h'=>r=.bool (nh l m)∧h'=h:=by
  refine SS (aD aJ aK [] _ _ _ ?_)
  unfold Mg
  simp only[EZ,ag,Nat.reduceAdd,Nat.reduceBEq,xB,aF,aP,aC.c,aB.c,an,ae]
  refine ah.val (by simp only[EO]) (tr β l hl.1 m.pos _) ?_
  by_cases h1:dq l.exports m.pos<0
  rotate_left
  · simp only[EZ,ag,Nat.reduceAdd,Nat.reduceBEq,xB,aF,aP,aC.c,aB.c,an,ae,decide_eq_false h1]
    have e:nh l m=false:=by simp[nh,h1]
    rw[e]
    first|exact⟨rfl,rfl⟩|rfl|trivial
  by_cases h2:m.pos=0
  rotate_left
  · simp only[EZ,ag,Nat.reduceAdd,Nat.reduceBEq,xB,aF,aP,aC.c,aB.c,an,ae,decide_eq_true h1,decide_eq_false h2]
    have e:nh l m=true:=by simp[nh,h1,h2]
    rw[e]
    first|exact⟨rfl,rfl⟩|rfl|trivial
  simp only[EZ,ag,Nat.reduceAdd,Nat.reduceBEq,xB,aF,aP,aC.c,aB.c,an,ae,decide_eq_true h1,decide_eq_true h2]
  refine ah.val (by simp only[EO]) (G4 β l.answers hl.2.2 m.answer _) ?_
  simp only[EZ,ag,Nat.reduceAdd,Nat.reduceBEq,xB,aF,aP,aC.c,aB.c,an,ae]
  have e:nh l m=decide (mh l.answers m.answer<0):=by rw[nh,decide_eq_true h1,decide_eq_true h2];simp
  rw[e]
  first|exact⟨rfl,rfl⟩|rfl|trivial|exact⟨Iu _,rfl⟩
def lv(peer q:Int):aE:=⟨2,0,[],1,⟨0,0⟩,[],[⟨peer,q⟩],0,0,0,0⟩
def vO(l:aC)(q p:Int):aC:={ l with answers:=l.answers++[⟨q,p⟩] }
theorem GI.push{K:Nat}{v:aA}(g:GI K v)(p:Int)(m:aB)(hm:m.ok 100):GI (K+1) (i4 v p m):=by
  obtain⟨h1,h2,h3⟩:=qC v p m
  exact⟨h3 g.vi hm,by have:=g.w;omega,LB.push (LB.mono (r':=0) (LB.Q2 (c:=1) g.lb) (by omega)) _ _,by rw[h1.ents];exact g.ne⟩
theorem OD{K:Nat}{v:aA}(g:GI K v)(hK:K+10≤100)(hl:v.entities.length<200)(peer q p:Int){k:Nat}(hk:k<v.aq.length):
    VI (gY (fW v (lv peer q)) k (vO v.aq[k] q p))∧wV (gY (fW v (lv peer q)) k (vO v.aq[k] q p))≤K+2∧LB (K+10) 7 (gY (fW v (lv peer q)) k (vO v.aq[k] q p))∧0<(gY (fW v (lv peer q)) k (vO v.aq[k] q p)).entities.length:=by
  have e1:fW v (lv peer q)={ v with entities:=v.entities++[lv peer q] }:=by rw[fW,if_neg (by omega)]
  rw[e1]
  have hx:jB (lv peer q)=2:=rfl
  have vi1:VI { v with entities:=v.entities++[lv peer q] }:=⟨by simp only[List.length_append,List.length_cons,List.length_nil];omega,g.vi.loop,g.vi.aq,g.vi.ans,fun y hy=>by
    rcases List.mem_append.1 hy with q|q
    · exact g.vi.en y q
    · rw[List.mem_singleton.1 q];exact⟨Nat.zero_le _,fun s hs=>by cases hs⟩,g.vi.lps,g.vi.outs⟩
  have ew:wE { v with entities:=v.entities++[lv peer q] }=wE v+2:=by simp[wE,hx]
  have li:=g.lb.Nn v.aq[k] (List.getElem_mem hk)
  have lb1:LB (K+10) 8 { v with entities:=v.entities++[lv peer q] }:=by
    obtain⟨N,h1,h2,h3⟩:=g.lb
    exact⟨N,h1,by rw[ew];omega,h3⟩
  refine⟨lB vi1 _ _ ?_,?_,lb1.gY _ _ fun N hN hl=>?_,by simp[gY]⟩
  · have:=li.la
    simp only[vO,List.length_append,List.length_cons,List.length_nil];omega
  · have h1:=px (v:={ v with entities:=v.entities++[lv peer q] }) k (vO v.aq[k] q p) (c:=0) (by
      have:(v.aq.getD k default)=v.aq[k]:=by simp[List.getD_eq_getElem?_getD,hk]
      rw[this];exact Nat.le_refl _)
    have h2:=g.w
    have e5:=Be { v with entities:=v.entities++[lv peer q] }
    rw[ew]at e5
    rw[Be]at h2
    simp only at e5
    omega
  · exact(hl _ (List.getElem_mem hk)).ans _
theorem GI.VU{K:Nat}{v:aA}(h1:VI v)(h2:wV v≤K+2)(h3:LB (K+10) 7 v)(h4:0<v.entities.length)(hK:K+10≤100)(s:aX)(hs:s.ok 100)(ha:s.args.length≤4):GI (K+10) (cn (jj v+1) v s):=by
  have d:=iI (jj v+1)
  refine⟨d.vi v s h1 hs,by have:=d.w v s;omega,LB.mono (r:=1) (n8 (jj v+1) (K+10) 1 v s (by omega) (h3.mono (by omega))) (by omega),by rw[d.len];exact h4⟩
set_option maxHeartbeats 8000000 in
set_option maxRecDepth 100000 in
theorem Ph{K:Nat}(v:aA)(g:GI K v)(hK:K+10≤100)(peer:Int)(β:Bool)(m:aB)(hm:m.args.length≤4)(hn:m.name.size≤100)(H:AH){b:Nat}{f:List Nat}(a:js H b v f):
    T Tryz.prog Γ Fn.U1 [.gp b 0 0,.int .i64 peer,.agg (m.c β)] H fun r H'=>r=.tup []∧∃v',GI (K+10) v'∧gU H b (fun c=>c∈f) H' v':=by
  have hvi:=g.vi
  have gw:=g.w
  have hvok:v.ok 1048576:=hvi.MN.mono (by omega)
  obtain⟨wE,w2,wL,w4,fE,f2,fL,f4,rfl,o⟩:=a
  have hE:v.entities.length≤1048576:=by have:=hvi.ents;omega
  have hL:v.aq.length≤1048576:=by have:=hvi.aq;omega
  have hb:=o.hb
  have blt:=o.blt
  have cb:∀(e:List AV) (L:List (List AV)) (off n:Nat),(St.mk e L H).cells (.gp b 0 off) n=sub [.int .i64 v.id,wE,w2,wL,w4] off n:=fun e L off n=>bk hb
  obtain⟨a1,a2,a3,a4⟩:=o.oE.cell
  obtain⟨b1,b2,b3,b4⟩:=o.o2.cell
  obtain⟨c1,c2,c3,c4⟩:=o.oL.cell
  obtain⟨d1,d2,d3,d4⟩:=o.o4.cell
  have stop:∃v',GI (K+10) v'∧gU H b (fun c=>c∈gB fE f2 fL f4) H v':=⟨v,g.mono (by omega),gU.refl o.at fun c hc=>hc⟩
  refine TO (aD aJ aK [] _ _ _ ?_)
  unfold Kc
  by_cases k1:m.kind=1
  rotate_left
  · simp only[EZ,ag,Nat.reduceAdd,Nat.reduceBEq,iB,dL,dM,dR,dS,aF,aP,EF,aB.c,an,ae,decide_eq_false k1]
    first|exact⟨rfl,stop⟩|exact⟨rfl,rfl,stop⟩|exact stop
  simp only[EZ,ag,Nat.reduceAdd,Nat.reduceBEq,iB,dL,dM,dR,dS,aF,aP,EF,aB.c,an,ae,decide_eq_true k1]
  refine ah.ref (by simp only[EO]) (GS β m (by omega) (by omega) _) ?_
  rintro _ H1 ⟨⟨im,rfl⟩,e⟩
  replace e:H1=H:=e
  subst e
  cases im
  · simp only[EZ,ag,Nat.reduceAdd,Nat.reduceBEq,iB,dL,dM,dR,dS,aF,aP,EF,aB.c,an,ae]
    first|exact⟨rfl,stop⟩|exact⟨rfl,rfl,stop⟩|exact stop
  simp only[EZ,ag,Nat.reduceAdd,Nat.reduceBEq,iB,dL,dM,dR,dS,aF,aP,EF,aB.c,an,ae,cb,a1,a2,a3,b1,b2,b3,c1,c2,c3,d1,d2,d3]
  refine ah.dT (by simp only[EO,a3,b3,c3,d3]) (aI (aO.dT (aA.bM true v) o.own) (aI (.same _) bm)) (fun h=>i6 true v hL peer h) (.bool _) ?_
  cases hu:ki v.aq peer
  · simp only[EZ,ag,Nat.reduceAdd,Nat.reduceBEq,iB,dL,dM,dR,dS,aF,aP,EF,aB.c,an,ae]
    first|exact⟨rfl,stop⟩|exact⟨rfl,rfl,stop⟩|exact stop
  obtain⟨k,hk,ek,ef⟩:=jU hu
  simp only[EZ,ag,Nat.reduceAdd,Nat.reduceBEq,iB,dL,dM,dR,dS,aF,aP,EF,aB.c,an,ae,cb,a1,a2,a3,b1,b2,b3,c1,c2,c3,d1,d2,d3]
  refine ah.dT (by simp only[EO,a3,b3,c3,d3]) (aI (aO.dT (aA.bM true v) o.own) (aI (.same _) bm)) (fun h=>lf true v hL peer h) (.int _ _) ?_
  rw[ek]
  obtain⟨bL,gL,nL,row,f0,iL,rL,lR,oR,nf0,sf0,bmL,bnL,wrL⟩:=o.n9 hk
  have hlok:=hvi.Ff.mono (show wV v+100≤1048576 by omega) _ (List.getElem_mem hk)
  obtain⟨wX,wQ,wA,fX,fQ,fA,rfl,rfl,oX,oQ,oA⟩:=db oR
  obtain⟨x1,x2,x3,x4⟩:=oX.cell
  obtain⟨y1,y2,y3,y4⟩:=oQ.cell
  obtain⟨z1,z2,z3,z4⟩:=oA.cell
  have rd6:∀(e:List AV) (L:List (List AV)),(St.mk e L H1).cells (.gp bL gL (nL+6)) 1=some [wA]:=fun e L=>by
    obtain⟨wrd,_⟩:=wrL H1 6 [wA] v.aq[k] (fX++(fQ++fA)) [] (Nat.le_refl _) (fun c hc=>by cases hc) (fun _ _ _ _=>rfl) (by simp) (by simp[z3]) (il oX oQ oA) nf0 (fun c hc=>.inl hc)
    exact(wrd e L 6 1).resolve_right (by omega)
  simp only[EZ,ag,Nat.reduceAdd,Nat.reduceBEq,iB,dL,dM,dR,dS,aF,aP,EF,aB.c,an,ae,cb,a1,a2,a3,b1,b2,b3,c1,c2,c3,d1,d2,d3,iL,rd6,z1,z2,z3]
  refine ah.dT (by simp only[EO,z3,z4]) (aI (bN.dT (aH.bM true) oA) (aI (.same _) bm)) (fun h=>Qy true v.aq[k].answers hlok.2.2 m.question h) (.bool _) ?_
  cases hh:v.aq[k].answers.any fun q=>q.id == m.question
  rotate_left
  · simp only[EZ,ag,Nat.reduceAdd,Nat.reduceBEq,iB,dL,dM,dR,dS,aF,aP,EF,aB.c,an,ae]
    first|exact⟨rfl,stop⟩|exact⟨rfl,rfl,stop⟩|exact stop
  simp only[EZ,ag,Nat.reduceAdd,Nat.reduceBEq,iB,dL,dM,dR,dS,aF,aP,EF,aB.c,an,ae,cb,a1,a2,a3,b1,b2,b3,c1,c2,c3,d1,d2,d3]
  refine ah.dT (by simp only[EO,a3,b3,c3,d3]) (aI (aO.dT (aA.bM true v) o.own) (aI (.same _) (aI (.same _) bm))) (fun h=>S2 true β v hvok peer m h) (.int _ _) ?_
  simp only[EZ,ag,Nat.reduceAdd,Nat.reduceBEq,iB,dL,dM,dR,dS,aF,aP,EF,EA,aB.c,an,ae,cb,a1,a2,a3,b1,b2,b3,c1,c2,c3,d1,d2,d3,iL,rL,x1,x2,x3,y1,y2,y3,z1,z2,z3]
  obtain⟨HA,hHA⟩:∃HA:AH,HA=H1++[some (0,[.int .i64 peer,.int .i64 m.question])]:=⟨_,rfl⟩
  simp only[←hHA]
  have lHA:HA.length=H1.length+1:=by rw[hHA];simp
  have frA:∀c,c<H1.length→HA[c]? = H1[c]?:=fun c hc=>by rw[hHA];exact List.getElem?_append_left hc
  have oN:VO HA b v wE w2 wL w4 fE f2 fL f4:=o.frame fun c hc=>frA c (by rcases hc with g|g;exact o.lt c g;rw[g];exact blt)
  have oAsk:bN HA (.gs H1.length 0 0 1 1 2 true) (.sl 2 ((lv peer m.question).askers.map cD.cd)) [H1.length]:=by rw[hHA];exact ky H1 rfl (.i (.i .nil))
  clear hHA iL bmL rL lR oR nf0 sf0 bnL wrL rd6 x1 x2 x3 x4 y1 y2 y3 y4 z1 z2 z3 z4 oX oQ oA hh
  have hbN:=oN.hb
  have cbN:∀(e:List AV) (L:List (List AV)) (off n:Nat),(St.mk e L HA).cells (.gp b 0 off) n=sub [.int .i64 v.id,wE,w2,wL,w4] off n:=fun e L off n=>bk hbN
  obtain⟨bL,gL,nL,row,f0,iL,rL,lR,oR,nf0,sf0,bmL,bnL,wrL⟩:=oN.n9 hk
  obtain⟨wX,wQ,wA,fX,fQ,fA,rfl,rfl,oX,oQ,oA⟩:=db oR
  obtain⟨x1,x2,x3,x4⟩:=oX.cell
  obtain⟨y1,y2,y3,y4⟩:=oQ.cell
  obtain⟨z1,z2,z3,z4⟩:=oA.cell
  simp only[EZ,ag,Nat.reduceAdd,Nat.reduceBEq,iB,dL,dM,dR,dS,aF,aP,EF,EA,aB.c,an,ae,cbN,a1,a2,a3,b1,b2,b3,c1,c2,c3,d1,d2,d3,iL,rL,x1,x2,x3,y1,y2,y3,z1,z2,z3]
  refine ah.dT (by simp only[EO,x3,y3,z3]) (aI (aO.dT (aC.bM true v.aq[k]) oR) (aI (.same _) bm)) (fun h=>QD true β v.aq[k] hlok m h) (.bool _) ?_
  have pushed:∀(H3:AH) (fz:List Nat),js H3 b v fz→(∀c∈fz,c∈gB fE f2 fL f4∨H1.length≤c)→HA.length≤H3.length→(∀c,c∉gB fE f2 fL f4→c≠b→c<HA.length→c≠H1.length→H3[c]? = HA[c]?)→T Tryz.prog Γ Fn.Ix [.gp b 0 0,.int .i64 peer,.agg [.int .i64 2,.int .i64 0,.int .i64 0,.int .i64 m.question,.str ⟨#[]⟩,.nils,.int .i64 3,.int .i64 0,.int .i64 0,.int .i64 0,.int .i64 0,.int .i64 0]] H3 fun r H'=>r=.tup []∧∃v',GI (K+10) v'∧gU H1 b (fun c=>c∈gB fE f2 fL f4) H' v':=fun H3 fz az mz lz rz=>by
    refine(Cm v hL (by rw[Be]at gw;omega) peer (qu m.question ⟨3,0⟩) H3 az (.i (.i (.i (.i (.s (.o (.nil _) (.i (.i (.i (.i (.i (.i .nil)))))))))))) List.nodup_nil (fun c hc=>by cases hc)).mono ?_
    rintro r H' ⟨rfl,f5,a5,l5,m5,r5⟩
    refine⟨rfl,_,(g.push peer (qu m.question ⟨3,0⟩) ⟨Nat.zero_le _,Nat.zero_le _⟩).mono (by omega),f5,a5,by omega,fun c hc=>?_,fun c h1 h2 h3=>?_⟩
    · rcases m5 c hc with(q|q)|q
      · rcases mz c q with s|s
        · exact .inl s
        · exact .inr (by omega)
      · cases q
      · exact .inr (by omega)
    · rw[r5 c (fun h=>by
        rcases h with q|q
        · rcases mz c q with s|s
          · exact h1 s
          · omega
        · cases q) h2 (by omega),rz c h1 h2 (by omega) (by omega),frA c h3]
  cases st:nh v.aq[k] m
  rotate_left
  · simp only[EZ,ag,Nat.reduceAdd,Nat.reduceBEq,iB,dL,dM,dR,dS,aF,aP,EF,EA,aB.c,an,ae,cbN,show decide ((-1:Int)<0)=true from rfl]
    refine ah.ref rfl (pushed HA _ oN.at (fun c hc=>.inl hc) (Nat.le_refl _) (fun _ _ _ _ _=>rfl)) ?_
    rintro _ H2 ⟨rfl,fin⟩
    simp only[EZ,ag,Nat.reduceAdd,Nat.reduceBEq,iB,dL,dM,dR,dS,aF,aP,EF,EA,aB.c,an,ae]
    first|exact⟨rfl,fin⟩|exact⟨rfl,rfl,fin⟩|exact fin
  simp only[EZ,ag,Nat.reduceAdd,Nat.reduceBEq,iB,dL,dM,dR,dS,aF,aP,EF,EA,aB.c,an,ae,cbN]
  refine ah.ref rfl (Gi v (lv peer m.question) HA oN.at (fm:=[H1.length]) (iQ (e:=lv peer m.question) (.nil _) (.nil _) oAsk) (by simp) (fun c hc=>by
    rw[List.mem_singleton.1 hc]
    exact⟨fun q=>by have:=o.lt _ q;omega,by omega⟩)) ?_
  rintro _ H2 ⟨rfl,f2',aN,l2,m2,r2⟩
  replace aN:js H2 b (fW v (lv peer m.question)) f2':=aN
  replace l2:HA.length≤H2.length:=l2
  replace m2:∀c∈f2',(c∈gB fE f2 fL f4∨c∈[H1.length])∨HA.length≤c:=m2
  replace r2:∀c,¬(c∈gB fE f2 fL f4∨c∈[H1.length])→c≠b→c<HA.length→H2[c]? = HA[c]?:=r2
  by_cases hfull:200≤v.entities.length
  · have e1:fW v (lv peer m.question)=v:=by rw[fW,if_pos hfull]
    have e2:lO v = -1:=by rw[lO,if_pos hfull]
    rw[e1]at aN
    rw[e2]
    simp only[EZ,ag,Nat.reduceAdd,Nat.reduceBEq,iB,dL,dM,dR,dS,aF,aP,EF,EA,aB.c,an,ae,show decide ((-1:Int)<0)=true from rfl]
    have P:=pushed H2 _ aN (fun c hc=>by
      rcases m2 c hc with(q|q)|q
      · exact .inl q
      · rw[List.mem_singleton.1 q];exact .inr (Nat.le_refl _)
      · exact .inr (by omega)) l2 (fun c h1 h2 h3 h4=>r2 c (fun h=>h.elim h1 fun q=>h4 (List.mem_singleton.1 q)) h2 h3)
    refine ah.ref rfl P ?_
    rintro _ H3 ⟨rfl,fin⟩
    simp only[EZ,ag,Nat.reduceAdd,Nat.reduceBEq,iB,dL,dM,dR,dS,aF,aP,EF,EA,aB.c,an,ae]
    first|exact⟨rfl,fin⟩|exact⟨rfl,rfl,fin⟩|exact fin
  have e1:fW v (lv peer m.question)={ v with entities:=v.entities++[lv peer m.question] }:=by rw[fW,if_neg hfull]
  have e2:lO v=(v.entities.length:Int):=by rw[lO,if_neg hfull]
  rw[e2]
  obtain⟨ck1,ck2,ck3,ck4⟩:=OD g hK (by omega) peer m.question (v.entities.length:Int) hk
  obtain⟨v1,hv1⟩:∃v1,v1=fW v (lv peer m.question):=⟨_,rfl⟩
  have lk1:v1.aq=v.aq:=by rw[hv1,e1]
  rw[←hv1]at aN ck1 ck2 ck3 ck4
  simp only[EZ,ag,Nat.reduceAdd,Nat.reduceBEq,iB,dL,dM,dR,dS,aF,aP,EF,EA,aB.c,an,ae,show decide ((v.entities.length:Int)<0)=false from decide_eq_false (by omega)]
  obtain⟨uE,u2,uL,u4,gE,g2,gL',g4,rfl,oM⟩:=aN
  have hk1:k<v1.aq.length:=by rw[lk1];exact hk
  have hbM:=oM.hb
  have cbM:∀(e:List AV) (L:List (List AV)) (off n:Nat),(St.mk e L H2).cells (.gp b 0 off) n=sub [.int .i64 v1.id,uE,u2,uL,u4] off n:=fun e L off n=>bk hbM
  obtain⟨j1,j2,j3,j4⟩:=oM.oL.cell
  obtain⟨bP,gP,nP,rowP,fP0,iP,rP,lP,oRP,nfP,sfP,bmP,bnP,wrP⟩:=oM.n9 hk1
  obtain⟨wX',wQ',wA',fX',fQ',fA',rfl,rfl,oX',oQ',oA'⟩:=db oRP
  obtain⟨z1',z2',z3',z4'⟩:=oA'.cell
  have rd6:∀(e:List AV) (L:List (List AV)),(St.mk e L H2).cells (.gp bP gP (nP+6)) 1=some [wA']:=fun e L=>by
    obtain⟨wrd,_⟩:=wrP H2 6 [wA'] v1.aq[k] (fX'++(fQ'++fA')) [] (Nat.le_refl _) (fun c hc=>by cases hc) (fun _ _ _ _=>rfl) (by simp) (by simp[z3']) (il oX' oQ' oA') nfP (fun c hc=>.inl hc)
    exact(wrd e L 6 1).resolve_right (by omega)
  have nA':fA'.Nodup:=(List.nodup_append.1 (List.nodup_append.1 nfP).2.1).2.1
  have hans:v1.aq[k].answers.length≤100:=by
    have:=g.vi.ans v.aq[k] (List.getElem_mem hk)
    simpa only[lk1]using this
  obtain⟨vA,H3,fA3,ea,oA3,nA3,fr3,l3,m3⟩:=dw (bytes:=16) oA' (ys:=[.int .i64 m.question,.int .i64 (v.entities.length:Int)]) (row:=[.i .i64 m.question,.i .i64 (v.entities.length:Int)]) (f2:=[]) (by simpa using nA') (by omega) rfl (.i (.i .nil)) (by simp only[List.length_map,aU];omega)
  simp only[EZ,ag,Nat.reduceAdd,Nat.reduceBEq,iB,dL,dM,dR,dS,aF,aP,EF,EA,aB.c,an,ae,cbM,j1,j2,j3,iP,rd6,z1',z2',z3',ea]
  have bf:=o.bf
  have bltM:=oM.blt
  have bfM:=oM.bf
  have sP:∀c∈fX'++(fQ'++fA'),c∈gB gE g2 gL' g4:=fun c hc=>bU.2 (.inr (.inr (.inl (sfP c hc))))
  have bA':b∉fA':=fun h=>bfM (sP b (by simp[h]))
  refine⟨j9 fun r hr=>by
    simp only[List.mem_cons,List.not_mem_nil,or_false]at hr
    subst hr
    exact .inr ⟨b,0,3,rfl,by rw[fr3 b bA' bltM,List.getElem?_append_left bltM]⟩,?_⟩
  obtain⟨nX1,nQA,dX1⟩:=List.nodup_append.1 nfP
  obtain⟨nQ1,_,dQ1⟩:=List.nodup_append.1 nQA
  have ltP:=oRP.lt
  have hlk:v1.aq[k]=v.aq[k]:=by simp only[lk1]
  obtain⟨zz1,zz2,zz3,zz4⟩:=oA3.cell
  have m3':∀c∈fA3,c∈fA'∨H2.length≤c:=fun c hc=>by
    rcases m3 c hc with g|g|g
    · exact .inl g
    · cases g
    · exact .inr g
  obtain⟨_,H4,f4',s4,l4,r4,a4',m4⟩:=wrP H3 6 [vA] (vO v1.aq[k] m.question (v.entities.length:Int)) (fX'++(fQ'++fA3)) [] l3 (fun c hc=>by cases hc) (fun c h1 h2 _=>fr3 c (fun g=>h2 (by simp[g])) h1) (by simp) (by simp[zz3])
    (il (l:=vO v1.aq[k] m.question (v.entities.length:Int)) (oX'.frame fun c hc=>fr3 c (fun g=>dX1 c hc c (by simp[g]) rfl) (ltP c (by simp[hc]))) (oQ'.frame fun c hc=>fr3 c (fun g=>dQ1 c hc c g rfl) (ltP c (by simp[hc]))) (show bN H3 vA (.sl 2 ((v1.aq[k].answers++[(⟨m.question,(v.entities.length:Int)⟩:aH)]).map aH.cd)) fA3 by rw[List.map_append];exact oA3))
    (List.nodup_append.2 ⟨nX1,List.nodup_append.2 ⟨nQ1,nA3,fun x hx y hy e=>by
      subst e
      rcases m3' x hy with g|g
      · exact dQ1 x hx x g rfl
      · have:=ltP x (by simp[hx]);omega⟩,fun x hx y hy e=>by
      subst e
      rcases List.mem_append.1 hy with q|q
      · exact dX1 x hx x (by simp[q]) rfl
      · rcases m3' x q with g|g
        · exact dX1 x hx x (by simp[g]) rfl
        · have:=ltP x (by simp[hx]);omega⟩)
    (fun c hc=>by
      simp only[List.mem_append]at hc ⊢
      rcases hc with g|g|g
      · exact .inl (.inl g)
      · exact .inl (.inr (.inl g))
      · rcases m3' c g with q|q
        · exact .inl (.inr (.inr q))
        · exact .inr (.inr q))
  have a4k:js H4 b (gY v1 k (vO v.aq[k] m.question (v.entities.length:Int))) f4':=by rw[←hlk];exact a4'
  obtain⟨v2,hv2⟩:∃v2,v2=gY v1 k (vO v.aq[k] m.question (v.entities.length:Int)):=⟨_,rfl⟩
  rw[←hv2]at a4k ck1 ck2 ck3 ck4
  clear a4'
  simp only[EZ,ag,Nat.reduceAdd,Nat.reduceBEq,iB,dL,dM,dR,dS,aF,aP,EF,EA,aB.c,an,ae,zz1,zz2,zz3,s4]
  refine ah.ref (by simp only[EO]) (PK v2 ck1 (by omega) peer β m.args (by omega) H4 a4k) ?_
  rintro w H5 ⟨v3,xs,fx,f5,F3,ox,nx,lx,a5,l5,m5,mx,r5⟩
  replace ox:bN H5 w _ fx:=ox
  replace a5:js H5 b v3 f5:=a5
  replace l5:H4.length≤H5.length:=l5
  replace r5:∀c,c∉f4'→c≠b→c<H4.length→H5[c]? = H4[c]?:=r5
  obtain⟨w1,w2',w3,w4'⟩:=ox.cell
  simp only[EZ,ag,Nat.reduceAdd,Nat.reduceBEq,iB,dL,dM,dR,dS,aF,aP,EF,EA,aB.c,an,ae,w1,w2',w3]
  have vi3:=F3.vi ck1
  have os:=uq (H:=H5) (s:=⟨pI v peer m,m.name,xs,(v.entities.length:Int),m.tag⟩) ox
  have blt4:b<H4.length:=by omega
  refine ah.ref (by simp only[EO,w3,w4']) (B9 (jj v3+1) v3 ⟨pI v peer m,m.name,xs,(v.entities.length:Int),m.tag⟩ H5 b f5 _ fx (Nat.lt_succ_self _) vi3 ⟨hn,by show xs.length≤100;omega⟩ (by show wV v3+2+xs.length≤500000;rw[F3.w];omega) a5 os nx (fun c hc=>⟨(mx c hc).2,fun e=>by have:=(mx c hc).1;omega⟩)) ?_
  rintro _ H6 ⟨rfl,f6,a6,l6,m6,r6⟩
  replace a6:js H6 b _ f6:=a6
  replace l6:H5.length≤H6.length:=l6
  replace m6:∀c∈f6,(c∈f5∨c∈fx)∨H5.length≤c:=m6
  replace r6:∀c,¬(c∈f5∨c∈fx)→c≠b→c<H5.length→H6[c]? = H5[c]?:=r6
  have t2:∀c∈gB gE g2 gL' g4,c∈gB fE f2 fL f4∨H1.length≤c:=fun c hc=>by
    rcases m2 c hc with(q|q)|q
    · exact .inl q
    · rw[List.mem_singleton.1 q];exact .inr (Nat.le_refl _)
    · exact .inr (by omega)
  have t4:∀c∈f4',c∈gB fE f2 fL f4∨H1.length≤c:=fun c hc=>by
    rcases m4 c hc with⟨q,_⟩|q
    · exact t2 c q
    · simp only[List.mem_append]at q
      rcases q with q|q|q
      · exact t2 c (sP c (by simp[q]))
      · exact t2 c (sP c (by simp[q]))
      · rcases m3' c q with s|s
        · exact t2 c (sP c (by simp[s]))
        · exact .inr (by omega)
  have t5:∀c∈f5,c∈gB fE f2 fL f4∨H1.length≤c:=fun c hc=>by
    rcases m5 c hc with q|q
    · exact t4 c q
    · exact .inr (by omega)
  have tx:∀c∈fx,c∈gB fE f2 fL f4∨H1.length≤c:=fun c hc=>.inr (by have:=(mx c hc).1;omega)
  have no:∀{l:List Nat} {c:Nat},(∀c∈l,c∈gB fE f2 fL f4∨H1.length≤c)→c∉gB fE f2 fL f4→c<H1.length→c∉l:=fun h h1 h2 g=>(h _ g).elim h1 fun q=>by omega
  have fin:∃v',GI (K+10) v'∧gU H1 b (fun c=>c∈gB fE f2 fL f4) H6 v':=by
    refine⟨_,GI.VU vi3 (by rw[F3.w];exact ck2) (ck3.fr F3) (Nat.lt_of_lt_of_le ck4 F3.len) hK _ ⟨hn,by show xs.length≤100;omega⟩ (by show xs.length≤4;omega),f6,a6,by omega,fun c hc=>?_,fun c h1 h2 h3=>?_⟩
    · rcases m6 c hc with(q|q)|q
      · exact t5 c q
      · exact tx c q
      · exact .inr (by omega)
    · rw[r6 c (fun h=>h.elim (no t5 h1 h3) (no tx h1 h3)) h2 (by omega),r5 c (no t4 h1 h3) h2 (by omega),r4 c (fun e=>no t2 h1 h3 (e▸bU.2 (.inr (.inr (.inl bmP))))),fr3 c (fun g=>no t2 h1 h3 (sP c (by simp[g]))) (by omega),r2 c (fun h=>h.elim h1 fun q=>by rw[List.mem_singleton.1 q]at h3;omega) h2 (by omega),frA c h3]
  simp only[EZ,ag,Nat.reduceAdd,Nat.reduceBEq,iB,dL,dM,dR,dS,aF,aP,EF,EA,aB.c,an,ae]
  first|exact⟨rfl,fin⟩|exact⟨rfl,rfl,fin⟩|exact fin
end Go.Proofs.YtccjhmhkfnnmaaaGreat
namespace Go.Proofs.YtccjhmhkfnnmaaaGreat
open Go.AM
variable {Γ:cj}
def Ct(i:Int)(q:aH):Bool:=q.id == i
def uz(l:List aH)(i:Int):List aH:=l.filter fun q=>!Ct i q
theorem sG(l:List aH)(i:Int):(uz l i).length≤l.length:=List.length_filter_le _ _
theorem Dj{i:Int}{l:List aH}{k:Nat}(hk:k<l.length):uz (l.take (k+1)) i=uz (l.take k) i++(if Ct i l[k]=true then []else [l[k]]):=by
  rw[uz,List.take_succ_eq_append_getElem hk,List.filter_append];congr 1
  by_cases h:Ct i l[k]=true<;>simp[h]
theorem Tk(β:Bool)(l:List aH)(hl:l.length≤1048576)(i:Int)(h:AH):T Tryz.prog Γ Fn.UU [.vs β 2 false (l.map (aH.c β)),.int .i64 i] h (aS h [.c (.sl 2 ((uz l i).map aH.cd))]):=by
  have L0:=dN β 2 false l (aH.c β)
  generalize e0:AV.vs β 2 false (l.map (aH.c β))=a0 at *
  refine T.n7 ?_
  refine Pm (aD aJ aK [] _ _ _ ?_)
  unfold Ny
  simp only[EZ,ag,Nat.reduceAdd,Nat.reduceBEq,xN,EA,L0]
  refine dD aJ aK [] (fun x:Nat×AV×AH×List Nat=>x.1≤l.length∧bN x.2.2.1 x.2.1 (.sl 2 ((uz (l.take x.1) i).map aH.cd)) x.2.2.2∧x.2.2.2.Nodup∧(∀c∈x.2.2.2,h.length≤c)∧∃N,x.2.2.1=h++N) (fun x=>l.length-x.1)
    (fun x=>u9 a0 (.int .i64 i) x.2.1 (.int .i64 x.1) [] x.2.2.1) (0,.gs h.length 0 0 0 0 2 true,h++[some (0,[])],[h.length]) ⟨by simp,dK h 2,by simp,by simp,_,rfl⟩ ⟨by simp[u9,eP,eM],rfl,rfl⟩ ?_
  rintro⟨k,v,H,fp⟩ ⟨hk,ho,nd,hfp,N,hN⟩
  simp only at hk ho nd hfp hN
  subst hN
  simp only[EZ,ag,Nat.reduceAdd,Nat.reduceBEq,xN,u9,L0]
  refine bI (fun hlt=>?_) (fun hge=>?_)
  rotate_left
  · have hge:k=l.length:=by simp at hge;omega
    subst hge
    simp only[EZ,ag,Nat.reduceAdd,Nat.reduceBEq,xN]
    rw[List.take_length]at ho
    exact⟨ho.c7,N,fp,rfl,ho,nd,hfp⟩
  have hlt:k<l.length:=by simpa using hlt
  have i0:=dy (β:=β) (sz:=2) (ex:=false) (ce:=aH.c β) hlt
  rw[e0]at i0
  have ht:=Dj (i:=i) hlt
  by_cases hp:l[k].id=i
  · have hd:Ct i l[k]=true:=by simp[Ct,hp]
    rw[if_pos hd,List.append_nil]at ht
    simp only[EZ,ag,Nat.reduceAdd,Nat.reduceBEq,xN,i0,aH.c,an,ae,decide_eq_true hp]
    exact⟨(k+1,v,h++N,fp),⟨hlt,by simp only;rw[ht];exact ho,nd,hfp,N,rfl⟩,by simp only;omega,⟨by rw[wN (by omega)];simp[u9,eP,eM],rfl,rfl⟩⟩
  have hd:¬Ct i l[k]=true:=by simp[Ct,hp]
  rw[if_neg hd]at ht
  have hbl:=sG (l.take k) i
  rw[List.length_take]at hbl
  obtain⟨v',H',fp',ea,o',nd',hf',hl',hm'⟩:=dw (bytes:=16) ho (ys:=[.int .i64 l[k].id,.int .i64 l[k].promise]) (row:=l[k].cd) (f2:=[]) (by simpa using nd) (by omega) rfl (.i (.i .nil)) (by simp only[List.length_map,aU];omega)
  obtain⟨N',rfl⟩:=NQ hl' hf' hfp
  simp only[EZ,ag,Nat.reduceAdd,Nat.reduceBEq,xN,EA,i0,aH.c,an,ae,decide_eq_false hp,ea]
  refine⟨(k+1,v',h++N',fp'),⟨hlt,by simp only;rw[ht,List.map_append];exact o',nd',fun c hc=>?_,N',rfl⟩,by simp only;omega,⟨by rw[wN (by omega)];simp[u9,eP,eM],rfl,rfl⟩⟩
  rcases hm' c hc with g|g|g
  · exact hfp c g
  · simp at g
  · simp at g;omega
def CT(l:aC)(q:Int):aC:={ l with questions:=uz l.questions q }
theorem gJ.fin{N:Nat}{l:aC}(h:gJ N l)(q:Int):gJ N (CT l q):=
  ⟨h.nx,h.ak,h.ex,h.nd,fun x hx=>h.qs x (List.mem_filter.1 hx).1,h.le,Nat.le_trans (sG _ _) h.lq,h.la⟩
theorem LB.N5{K r:Nat}{v:aA}(h:LB K r v)(k:Nat)(l:aC)(hl:∀N,(∀x∈v.aq,gJ N x)→gJ N l):LB K r (Go.Proofs.YtccjhmhkfnnmaaaGreat.gY v k l):=by
  obtain⟨N,h1,h2,h3⟩:=h
  refine⟨N,fun x hx=>?_,h2,by simpa[Go.Proofs.YtccjhmhkfnnmaaaGreat.gY]using h3⟩
  rcases List.mem_or_eq_of_mem_set hx with g|g
  · exact h1 x g
  · rw[g];exact hl N h1
theorem GI.fin{K:Nat}{v:aA}(g:GI K v){k:Nat}(hk:k<v.aq.length)(q:Int):GI K (gY v k (CT v.aq[k] q)):=by
  refine⟨lB g.vi _ _ (show v.aq[k].answers.length≤100 from g.vi.ans _ (List.getElem_mem hk)),?_,g.lb.N5 _ _ fun N hl=>(hl _ (List.getElem_mem hk)).fin q,g.ne⟩
  have h1:=px (v:=v) k (CT v.aq[k] q) (c:=0) (by
    have:(v.aq.getD k default)=v.aq[k]:=by simp[List.getD_eq_getElem?_getD,hk]
    rw[this];have:=sG v.aq[k].questions q;simp only[vG,CT];omega)
  have:=g.w;omega
theorem GI.res{K:Nat}{v:aA}(g:GI K v)(hK:K≤1000)(n:Nat)(p:Int)(x:ar):GI K (hP (cn n) v p x):=by
  obtain⟨r1,r2,r3,r4⟩:=C9 (iI n) v p x
  exact⟨r4 g.vi,by have:=g.w;omega,(n8 n).res hK v p x g.lb,by rw[r1];exact g.ne⟩
theorem GI.fr{K:Nat}{v v':aA}(g:GI K v)(f:Fr v v'):GI K v':=⟨f.vi g.vi,by rw[f.w];exact g.w,g.lb.fr f,Nat.lt_of_lt_of_le g.ne f.len⟩
set_option maxHeartbeats 8000000 in
set_option maxRecDepth 100000 in
theorem JB(v:aA)(hvi:VI v)(hw:wV v≤400000)(peer:Int)(hu:ki v.aq peer=true)(q st:Int)(H:AH){b:Nat}{f:List Nat}(a:js H b v f):
    T Tryz.prog Γ Fn.UZ [.gp b 0 0,.int .i64 peer,.int .i64 q,.int .i64 st] H fun r H'=>(∃p,r=.int .i64 p∧(p<0∨dU p v.entities.length=true))∧H'=H:=by
  obtain⟨wE,w2,wL,w4,fE,f2,fL,f4,rfl,o⟩:=a
  have hE:v.entities.length≤1048576:=by have:=hvi.ents;omega
  have hL:v.aq.length≤1048576:=by have:=hvi.aq;omega
  have hb:=o.hb
  have blt:=o.blt
  have cb:∀(e:List AV) (L:List (List AV)) (off n:Nat),(St.mk e L H).cells (.gp b 0 off) n=sub [.int .i64 v.id,wE,w2,wL,w4] off n:=fun e L off n=>bk hb
  obtain⟨a1,a2,a3,a4⟩:=o.oE.cell
  obtain⟨b1,b2,b3,b4⟩:=o.o2.cell
  obtain⟨c1,c2,c3,c4⟩:=o.oL.cell
  obtain⟨d1,d2,d3,d4⟩:=o.o4.cell
  have lE:=(dE o.oE).2
  rw[List.length_map]at lE
  obtain⟨k,hk,ek,ef⟩:=jU hu
  have stop:∃p,(AV.int .i64 (-1))=.int .i64 p∧(p<0∨dU p v.entities.length=true):=⟨-1,rfl,.inl (by omega)⟩
  refine QW (aD aJ aK [] _ _ _ ?_)
  unfold Lz
  simp only[EZ,ag,Nat.reduceAdd,Nat.reduceBEq,p9,jb,aF,aP,EF,EA,an,ae,cb,a1,a2,a3,b1,b2,b3,c1,c2,c3,d1,d2,d3]
  refine ah.dT (by simp only[EO,a3,b3,c3,d3]) (aI (aO.dT (aA.bM true v) o.own) (aI (.same _) bm)) (fun h=>lf true v hL peer h) (.int _ _) ?_
  rw[ek]
  refine⟨j9 fun r hr=>by
    simp only[List.mem_cons,List.not_mem_nil,or_false]at hr
    subst hr;exact .inr ⟨_,_,_,rfl,rfl⟩,?_⟩
  obtain⟨bL,gL,nL,row,f0,iL,rL,lR,oR,nf0,sf0,bmL,bnL,wrL⟩:=o.n9 hk
  have hlok:=hvi.Ff.mono (show wV v+100≤1048576 by omega) _ (List.getElem_mem hk)
  obtain⟨wX,wQ,wA,fX,fQ,fA,rfl,rfl,oX,oQ,oA⟩:=db oR
  obtain⟨y1,y2,y3,y4⟩:=oQ.cell
  have rd4:∀(e:List AV) (L:List (List AV)),(St.mk e L H).cells (.gp bL gL (nL+4)) 1=some [wQ]:=fun e L=>by
    obtain⟨wrd,_⟩:=wrL H 4 [wQ] v.aq[k] (fX++(fQ++fA)) [] (Nat.le_refl _) (fun c hc=>by cases hc) (fun _ _ _ _=>rfl) (by simp) (by simp[y3]) (il oX oQ oA) nf0 (fun c hc=>.inl hc)
    exact(wrd e L 4 1).resolve_right (by omega)
  simp only[EZ,ag,Nat.reduceAdd,Nat.reduceBEq,p9,jb,aF,aP,EF,EA,an,ae,cb,a1,a2,a3,b1,b2,b3,c1,c2,c3,d1,d2,d3,iL,rd4,y1,y2,y3]
  refine ah.dT (by simp only[EO,y3,y4]) (aI (bN.dT (aH.bM true) oQ) (aI (.same _) bm)) (fun h=>G4 true v.aq[k].questions hlok.2.1 q h) (.int _ _) ?_
  simp only[EZ,ag,Nat.reduceAdd,Nat.reduceBEq,p9,jb,aF,aP,EF,EA,an,ae,cb,a1,a2,a3,b1,b2,b3,c1,c2,c3,d1,d2,d3,lE]
  refine ah.val (by simp only[EO]) (dH _ _ _ _) ?_
  rw[dF _ hE]
  cases e1:dU (mh v.aq[k].questions q) v.entities.length
  · simp only[EZ,ag,Nat.reduceAdd,Nat.reduceBEq,p9,jb,aF,aP,EF,EA,an,ae,cb,a1,a2,a3,b1,b2,b3,c1,c2,c3,d1,d2,d3]
    first|exact⟨⟨rfl,stop⟩,rfl⟩|exact⟨rfl,stop⟩|exact⟨stop,rfl⟩|exact stop
  obtain⟨j,hj,ej,ej2,ej3⟩:=gg e1
  have fine:∃p,(AV.int .i64 (mh v.aq[k].questions q))=.int .i64 p∧(p<0∨dU p v.entities.length=true):=⟨_,rfl,.inr e1⟩
  obtain⟨bS,gS,nS,row2,fT,iS,rS,lS,oS2,nfT,sT,bmS,bnS,wrS⟩:=o.iy hj
  obtain⟨en,hen⟩:∃en,en=v.entities[j]:=⟨_,rfl⟩
  rw[←hen]at oS2
  obtain⟨wS2,wQ2,wA2,fS2,fQ2,fA2,rfl,rfl,oSS,oQQ,oAA⟩:=et oS2
  obtain⟨p1,p2,p3,p4⟩:=oSS.cell
  obtain⟨q1,q2,q3,q4⟩:=oQQ.cell
  obtain⟨r1,r2,r3,r4⟩:=oAA.cell
  have iS':eJ 12 wE (mh v.aq[k].questions q)=some (.gp bS gS nS):=by rw[ej];exact iS
  by_cases t1:en.kind=2
  rotate_left
  · simp only[EZ,ag,Nat.reduceAdd,Nat.reduceBEq,p9,jb,aF,aP,EF,EA,an,ae,cb,a1,a2,a3,b1,b2,b3,c1,c2,c3,d1,d2,d3,iS',rS,p1,p2,p3,q1,q2,q3,r1,r2,r3,decide_eq_false t1]
    first|exact⟨⟨rfl,stop⟩,rfl⟩|exact⟨rfl,stop⟩|exact⟨stop,rfl⟩|exact stop
  by_cases t2:en.state=st
  rotate_left
  · simp only[EZ,ag,Nat.reduceAdd,Nat.reduceBEq,p9,jb,aF,aP,EF,EA,an,ae,cb,a1,a2,a3,b1,b2,b3,c1,c2,c3,d1,d2,d3,iS',rS,p1,p2,p3,q1,q2,q3,r1,r2,r3,decide_eq_true t1,decide_eq_false t2]
    first|exact⟨⟨rfl,stop⟩,rfl⟩|exact⟨rfl,stop⟩|exact⟨stop,rfl⟩|exact stop
  by_cases t3:en.peer=peer
  rotate_left
  · simp only[EZ,ag,Nat.reduceAdd,Nat.reduceBEq,p9,jb,aF,aP,EF,EA,an,ae,cb,a1,a2,a3,b1,b2,b3,c1,c2,c3,d1,d2,d3,iS',rS,p1,p2,p3,q1,q2,q3,r1,r2,r3,decide_eq_true t1,decide_eq_true t2,decide_eq_false t3]
    first|exact⟨⟨rfl,stop⟩,rfl⟩|exact⟨rfl,stop⟩|exact⟨stop,rfl⟩|exact stop
  by_cases t4:en.pos=q
  rotate_left
  · simp only[EZ,ag,Nat.reduceAdd,Nat.reduceBEq,p9,jb,aF,aP,EF,EA,an,ae,cb,a1,a2,a3,b1,b2,b3,c1,c2,c3,d1,d2,d3,iS',rS,p1,p2,p3,q1,q2,q3,r1,r2,r3,decide_eq_true t1,decide_eq_true t2,decide_eq_true t3,decide_eq_false t4]
    first|exact⟨⟨rfl,stop⟩,rfl⟩|exact⟨rfl,stop⟩|exact⟨stop,rfl⟩|exact stop
  simp only[EZ,ag,Nat.reduceAdd,Nat.reduceBEq,p9,jb,aF,aP,EF,EA,an,ae,cb,a1,a2,a3,b1,b2,b3,c1,c2,c3,d1,d2,d3,iS',rS,p1,p2,p3,q1,q2,q3,r1,r2,r3,decide_eq_true t1,decide_eq_true t2,decide_eq_true t3,decide_eq_true t4]
  first|exact⟨⟨rfl,fine⟩,rfl⟩|exact⟨rfl,fine⟩|exact⟨fine,rfl⟩|exact fine
end Go.Proofs.YtccjhmhkfnnmaaaGreat
namespace Go.Proofs.YtccjhmhkfnnmaaaGreat
open Go.AM
variable {Γ:cj}
def sd(k q:Int):aB:=⟨k,0,0,q,⟨#[]⟩,[],⟨0,0⟩,0,⟨0,0,0⟩⟩
def VP(k q:Int):List AV:=[.int .i64 k,.int .i64 0,.int .i64 0,.int .i64 q,.str ⟨#[]⟩,.nils,.int .i64 0,.int .i64 0,.int .i64 0,.int .i64 0,.int .i64 0,.int .i64 0]
theorem Ds(H:AH)(k q:Int):aO H (VP k q) (sd k q).cd []:=.i (.i (.i (.i (.s (.o (.nil _) (.i (.i (.i (.i (.i (.i .nil)))))))))))
set_option maxHeartbeats 8000000 in
set_option maxRecDepth 100000 in
theorem FW{K:Nat}(v:aA)(g:GI K v)(hK:K+1≤1000)(peer:Int)(hu:ki v.aq peer=true)(q p:Int)(x:ar)(H:AH){b:Nat}{f:List Nat}(a:js H b v f):
    T Tryz.prog Γ Fn.S6 [.gp b 0 0,.int .i64 peer,.int .i64 q,.int .i64 p,.agg (x.c false)] H fun r H'=>r=.tup []∧∃v',GI (K+1) v'∧gU H b (fun c=>c∈f) H' v':=by
  have hvi:=g.vi
  have gw:=g.w
  obtain⟨wE,w2,wL,w4,fE,f2,fL,f4,rfl,o⟩:=a
  have hE:v.entities.length≤1048576:=by have:=hvi.ents;omega
  have hL:v.aq.length≤1048576:=by have:=hvi.aq;omega
  have hb:=o.hb
  have blt:=o.blt
  have cb:∀(e:List AV) (L:List (List AV)) (off n:Nat),(St.mk e L H).cells (.gp b 0 off) n=sub [.int .i64 v.id,wE,w2,wL,w4] off n:=fun e L off n=>bk hb
  obtain⟨a1,a2,a3,a4⟩:=o.oE.cell
  obtain⟨b1,b2,b3,b4⟩:=o.o2.cell
  obtain⟨c1,c2,c3,c4⟩:=o.oL.cell
  obtain⟨d1,d2,d3,d4⟩:=o.o4.cell
  obtain⟨k,hk,ek,ef⟩:=jU hu
  refine UI (aD aJ aK [] _ _ _ ?_)
  unfold J5
  simp only[EZ,ag,Nat.reduceAdd,Nat.reduceBEq,yx,nW,aF,aP,EF,EA,an,ae,cb,a1,a2,a3,b1,b2,b3,c1,c2,c3,d1,d2,d3,ar.c]
  refine ah.dT (by simp only[EO,a3,b3,c3,d3]) (aI (aO.dT (aA.bM true v) o.own) (aI (.same _) bm)) (fun h=>lf true v hL peer h) (.int _ _) ?_
  rw[ek]
  obtain⟨bL,gL,nL,row,f0,iL,rL,lR,oR,nf0,sf0,bmL,bnL,wrL⟩:=o.n9 hk
  have hlok:=hvi.Ff.mono (show wV v+100≤1048576 by omega) _ (List.getElem_mem hk)
  obtain⟨wX,wQ,wA,fX,fQ,fA,rfl,rfl,oX,oQ,oA⟩:=db oR
  obtain⟨y1,y2,y3,y4⟩:=oQ.cell
  have rd4:∀(e:List AV) (L:List (List AV)),(St.mk e L H).cells (.gp bL gL (nL+4)) 1=some [wQ]:=fun e L=>by
    obtain⟨wrd,_⟩:=wrL H 4 [wQ] v.aq[k] (fX++(fQ++fA)) [] (Nat.le_refl _) (fun c hc=>by cases hc) (fun _ _ _ _=>rfl) (by simp) (by simp[y3]) (il oX oQ oA) nf0 (fun c hc=>.inl hc)
    exact(wrd e L 4 1).resolve_right (by omega)
  simp only[EZ,ag,Nat.reduceAdd,Nat.reduceBEq,yx,nW,aF,aP,EF,EA,an,ae,cb,a1,a2,a3,b1,b2,b3,c1,c2,c3,d1,d2,d3,ar.c,iL,rd4,y1,y2,y3]
  refine ah.own (by simp only[EO,y3,y4]) (aI (bN.dT (aH.bM true) oQ) (aI (.same _) bm)) (fun h=>Tk true v.aq[k].questions hlok.2.1 q h) ?_
  rintro w H2 fr
  replace fr:aS H _ _ _:=fr
  obtain⟨fw,ow,nw,bw,ew⟩:=fr.c1
  obtain⟨z1,z2,z3,z4⟩:=ow.cell
  refine⟨j9 fun r hr=>by
    simp only[List.mem_cons,List.not_mem_nil,or_false]at hr
    subst hr;exact .inr ⟨_,_,_,rfl,ew.fr b blt⟩,?_⟩
  obtain⟨nX,nQA,dX⟩:=List.nodup_append.1 nf0
  obtain⟨_,nA,dQ⟩:=List.nodup_append.1 nQA
  have lt0:=oR.lt
  obtain⟨_,H3,f3,s3,l3,r3,a3v,m3⟩:=wrL H2 4 [w] (CT v.aq[k] q) (fX++(fw++fA)) [] ew.len (fun c hc=>by cases hc) (fun c h1 _ _=>ew.fr c h1) (by simp) (by simp[z3])
    (il (l:=CT v.aq[k] q) (oX.frame fun c hc=>ew.fr c (oX.lt c hc)) ow (oA.frame fun c hc=>ew.fr c (oA.lt c hc)))
    (List.nodup_append.2 ⟨nX,List.nodup_append.2 ⟨nw,nA,fun x hx y hy e=>by have:=bw x hx;have:=oA.lt y hy;omega⟩,fun x hx y hy e=>by
      rcases List.mem_append.1 hy with s|s
      · have:=oX.lt x hx;have:=bw y s;omega
      · exact dX x hx y (by simp[s]) e⟩)
    (fun c hc=>by
      simp only[List.mem_append]at hc ⊢
      rcases hc with s|s|s
      · exact .inl (.inl s)
      · exact .inr (.inr (bw c s))
      · exact .inl (.inr (.inr s)))
  have g1:=g.fin hk q
  obtain⟨v1,hv1⟩:∃v1,v1=gY v k (CT v.aq[k] q):=⟨_,rfl⟩
  replace a3v:js H3 b v1 f3:=by rw[hv1];exact a3v
  rw[←hv1]at g1
  have l2:=ew.len
  have mm3:∀c∈f3,c∈gB fE f2 fL f4∨H.length≤c:=fun c hc=>by
    rcases m3 c hc with⟨s,_⟩|s
    · exact .inl s
    · simp only[List.mem_append]at s
      rcases s with s|s|s
      · exact .inl (bU.2 (.inr (.inr (.inl (sf0 c (by simp[s]))))))
      · exact .inr (bw c s)
      · exact .inl (bU.2 (.inr (.inr (.inl (sf0 c (by simp[s]))))))
  have rr3:∀c,¬(c∈gB fE f2 fL f4)→c≠b→c<H.length→H3[c]? = H[c]?:=fun c h1 _ h3=>by
    rw[r3 c (fun e=>h1 (e▸bU.2 (.inr (.inr (.inl bmL))))),ew.fr c h3]
  simp only[EZ,ag,Nat.reduceAdd,Nat.reduceBEq,yx,nW,aF,aP,EF,EA,an,ae,cb,a1,a2,a3,b1,b2,b3,c1,c2,c3,d1,d2,d3,ar.c,iL,z1,z2,z3,s3]
  refine ah.ref rfl (Cm v1 (by have:=g1.vi.aq;omega) (by have:=g1.w;rw[Be]at this;omega) peer (sd 5 q) H3 a3v (Ds H3 5 q) List.nodup_nil (fun c hc=>by cases hc)) ?_
  rintro _ H4 ⟨rfl,u4⟩
  replace u4:gU H3 b (fun c=>c∈f3∨c∈[]) H4 _:=u4
  have g2:=g1.push peer (sd 5 q) ⟨Nat.zero_le _,Nat.zero_le _⟩
  obtain⟨v2,hv2⟩:∃v2,v2=i4 v1 peer (sd 5 q):=⟨_,rfl⟩
  rw[←hv2]at g2 u4
  obtain⟨f4',a4v,l4,m4,r4⟩:=gU.trans (F:=fun c=>c∈gB fE f2 fL f4) (by omega) mm3 rr3 u4 (fun c hc=>hc.elim .inl fun h=>by cases h)
  simp only[EZ,ag,Nat.reduceAdd,Nat.reduceBEq,yx,nW,aF,aP,EF,EA,an,ae,cb,a1,a2,a3,b1,b2,b3,c1,c2,c3,d1,d2,d3,ar.c]
  refine ah.ref rfl (GL (B9 (jj v2+1)) v2 p x (Nat.le_succ _) g2.vi (by have:=g2.w;omega) H4 a4v) ?_
  rintro _ H5 ⟨rfl,u5⟩
  replace u5:gU H4 b (fun c=>c∈f4') H5 _:=u5
  have fin:∃v',GI (K+1) v'∧gU H b (fun c=>c∈gB fE f2 fL f4) H5 v':=⟨_,g2.res (by omega) (jj v2+1) p x,gU.trans l4 m4 r4 u5 (fun c hc=>.inl hc)⟩
  simp only[EZ,ag,Nat.reduceAdd,Nat.reduceBEq,yx,nW,aF,aP,EF,EA,an,ae,cb,a1,a2,a3,b1,b2,b3,c1,c2,c3,d1,d2,d3,ar.c]
  first|exact⟨rfl,fin⟩|exact⟨rfl,rfl,fin⟩|exact fin
end Go.Proofs.YtccjhmhkfnnmaaaGreat
