import Derived.Test.YtccjhmhkfnnmaaaGreatR6G24
import Derived.Test.YtccjhmhkfnnmaaaGreatR6G15
import Derived.Test.YtccjhmhkfnnmaaaGreatAmG9
import Derived.Test.YtccjhmhkfnnmaaaGreatAmG10
set_option linter.unusedVariables false
set_option linter.unusedSimpArgs false
namespace Go.Proofs.YtccjhmhkfnnmaaaGreat
open Go.AM
variable {Γ:cj}
abbrev vI:List AV:=[.int .i64 0,.int .i64 0,.int .i64 0,.int .i64 0,.str ⟨#[]⟩,.nils,.int .i64 0,.int .i64 0,.int .i64 0,.int .i64 0,.int .i64 0,.int .i64 0]
theorem qV{c vs:List AV}(h:vs.length=c.length):cB c 0 vs=vs:=by simp[cB,h]
set_option maxHeartbeats 8000000 in
set_option maxRecDepth 100000 in
theorem S7(H:AH){b:Nat}{bs:List Int}(hb:bs.length≤1073741824)(hc:nc H b bs)(id:Int)(wE w2 wL w4:AV)(a1:cellsOf wE=some [wE])(a2:bK wE=true)(b1:cellsOf w2=some [w2])(b2:bK w2=true)(c1:cellsOf wL=some [wL])(c2:bK wL=true)(d1:cellsOf w4=some [w4])(d2:bK w4=true):T Tryz.prog Γ Fn.Vy [.gp b 0 0,.agg [.int .i64 id,wE,w2,wL,w4]] H fun v h'=>∃fr row,v=.tup [.int .i64 fr,.agg row]∧EN H b bs row h':=by
  have hbl:b<H.length:=by obtain⟨_,_,_,hg⟩:=hc;exact c5 hg
  refine T3 (aD aJ aK [] _ _ _ ?_)
  unfold Kg
  simp only[EZ,ag,Nat.reduceAdd,Nat.reduceBEq,rn,jL,aF,aP,ER,EF,EA,ae,an,O8,a1,a2,b1,b2,c1,c2,d1,d2]
  have dA:aR H (H++[some (0,[AV.int .i64 2,.int .i64 3,.int .i64 2,.int .i64 3,.int .i64 4])]) b bs:=.kO hc (bQ.app _ _)
  refine ah.ref (by simp only[EO]) (HI _ hb dA.cur (rk H [2,3,2,3,4] rfl) (by simp only[List.mem_singleton];omega) (by simp)) ?_
  rintro _ H1 ⟨fr,rfl,q⟩
  replace q:aR (H++[some (0,_)]) H1 b bs:=q
  have e1:=dA.trans q
  clear q
  simp only[EZ,ag,Nat.reduceAdd,Nat.reduceBEq,rn,jL,aF,aP,ER,EF,EA,ae,an]
  refine ah.ref (by simp only[EO]) (Rr _ hb e1.cur) ?_
  rintro _ H2 ⟨_,rfl,m,w,fp,rfl,ow,nw,bw,ha,hn,q⟩
  replace q:aR H1 H2 b bs:=q
  have e2:=e1.trans q
  replace bw:∀c∈fp,H.length≤c:=fun c hc=>Nat.le_trans e1.len (bw c hc)
  replace ow:bN H2 w _ fp:=ow
  clear q
  obtain⟨w1,w2',w3,w4'⟩:=ow.cell
  simp only[EZ,ag,Nat.reduceAdd,Nat.reduceBEq,rn,jL,aF,aP,ER,EF,EA,ae,an,cZ,w1,w2',w3]
  refine dD aJ aK [] (fun y:aB×AV×List Nat×AH=>bN y.2.2.2 y.2.1 (.sl 2 (y.1.args.map aV.cd)) y.2.2.1∧y.2.2.1.Nodup∧(∀c∈y.2.2.1,H.length≤c)∧y.1.args.length≤3∧y.1.name.size≤100∧aR H y.2.2.2 b bs) (fun y=>if y.1.kind=1 then 0 else 1)
    (fun y=>C8 (.gp b 0 0) (.lp (([]:List (List AV)).length+1) 0) (.int .i64 fr) (.lp (([]:List (List AV)).length+2) 0) (LL [.int .i64 id,wE,w2,wL,w4] vI []++[cZ y.1 y.2.1]) y.2.2.2) (m,w,fp,H2) ⟨ow,nw,bw,ha,hn,e2⟩ ⟨by simp[C8,eP,eM],rfl,rfl⟩ ?_
  clear ow nw bw ha hn w1 w2' w3 w4' e2
  clear m w fp
  rintro⟨m,w,fp,Hi⟩ ⟨ow,nw,bw,ha,hn,di⟩
  simp only at ow nw bw ha hn di
  obtain⟨w1,w2',w3,w4'⟩:=ow.cell
  have rr:=fun e h off n=>gz (e:=e) (h:=h) (c0:=[.int .i64 id,wE,w2,wL,w4]) (row:=vI) (X:=[]) (Y:=[]) (cZ m w) off n
  simp only[cZ]at rr
  simp only[EZ,ag,Nat.reduceAdd,Nat.reduceBEq,rn,jL,aF,aP,ER,EF,EA,ae,an,C8,cZ,rr]
  refine bI (fun hne=>?_) (fun heq=>?_)
  rotate_left
  · have st1:∀(e:List AV) (h:AH),(St.mk e (LL [.int .i64 id,wE,w2,wL,w4] vI []++[cZ m w]) h).store (.lp (([]:List (List AV)).length+1) 0) (cZ m w)=some ⟨e,LL [.int .i64 id,wE,w2,wL,w4] (cZ m w) []++[cZ m w],h⟩:=fun e h=>by
      rw[AA (by simp[cZ]) (by simp only[cZ,List.all_cons,List.all_nil,w2'];rfl),qV (by simp[cZ])]
    simp only[cZ]at st1
    simp only[EZ,ag,Nat.reduceAdd,Nat.reduceBEq,rn,jL,aF,aP,ER,EF,EA,ae,an,rr,w1,w2',w3,st1,dB]
    have fin:∃fr' row,(AV.tup [.int .i64 fr,.agg (cZ m w)])=.tup [.int .i64 fr',.agg row]∧EN H b bs row Hi:=⟨_,_,rfl,m,w,fp,rfl,ow,nw,bw,ha,hn,di⟩
    first|exact⟨rfl,fin⟩|exact fin|exact⟨by simp only[c7,EO,w3,w4'],fin⟩|exact⟨by simp only[List.all_cons,List.all_nil,EO,w3,w4'];rfl,fin⟩|exact⟨by simp only[List.all_cons,List.all_nil,EO,w3,w4'],fin⟩
  have hk1:m.kind≠1:=by simpa using hne
  simp only[EZ,ag,Nat.reduceAdd,Nat.reduceBEq,rn,jL,aF,aP,ER,EF,EA,ae,an,rr]
  refine ah.ref (by simp only[EO]) (aW _ hb di.cur _) ?_
  rintro _ Hj ⟨x,rfl,_,_,q⟩
  replace q:aR Hi Hj b bs:=q
  have dj:=di.trans q
  clear q
  simp only[EZ,ag,Nat.reduceAdd,Nat.reduceBEq,rn,jL,aF,aP,ER,EF,EA,ae,an,rr]
  refine ah.ref (by simp only[EO]) (Hs _ hb dj.cur) ?_
  rintro _ Hk ⟨nm,rfl,hnm,q⟩
  replace q:aR Hj Hk b bs:=q
  have dk:=dj.trans q
  clear q
  have st2:∀(e:List AV) (h:AH),(St.mk e (LL [.int .i64 id,wE,w2,wL,w4] vI []++[cZ m w]) h).store (.lp (([]:List (List AV)).length+2) 0) (cZ ⟨1,1,0,IntKind.i64.wrap (1+x),nm,[],⟨0,0⟩,0,⟨fr,1,1⟩⟩ .nils)=some ⟨e,LL [.int .i64 id,wE,w2,wL,w4] vI []++[cZ ⟨1,1,0,IntKind.i64.wrap (1+x),nm,[],⟨0,0⟩,0,⟨fr,1,1⟩⟩ .nils],h⟩:=fun e h=>by
    have:=oq (e:=e) (h:=h) (c0:=[.int .i64 id,wE,w2,wL,w4]) (row:=vI) (X:=[]) (Y:=[]) (z:=cZ m w) (off:=0) (vs:=cZ ⟨1,1,0,IntKind.i64.wrap (1+x),nm,[],⟨0,0⟩,0,⟨fr,1,1⟩⟩ .nils) (by simp[cZ]) rfl
    rw[qV (by simp[cZ])]at this
    exact this
  simp only[cZ]at st2
  simp only[EZ,ag,Nat.reduceAdd,Nat.reduceBEq,rn,jL,aF,aP,ER,EF,EA,ae,an,rr,st2]
  exact⟨(⟨1,1,0,IntKind.i64.wrap (1+x),nm,[],⟨0,0⟩,0,⟨fr,1,1⟩⟩,.nils,[],Hk),⟨.nil _,List.nodup_nil,(fun c hc=>by cases hc),Nat.zero_le _,hnm,dk⟩,by simp only[if_neg hk1];decide,⟨by simp[eP,eM],rfl,rfl⟩⟩
theorem od{H H':AH}{c g off n:Nat}{e:List AV}{L:List (List AV)}(h:H'[c]? = H[c]?):(St.mk e L H').cells (.gp c g off) n=(St.mk e L H).cells (.gp c g off) n:=by
  simp only[St.cells];rw[bO h]
set_option maxHeartbeats 8000000 in
set_option maxRecDepth 100000 in
theorem RO(H:AH){b:Nat}{bs:List Int}(hb:bs.length≤1073741824)(hc:nc H b bs){v:aA}{wE w2 wL w4:AV}{f:List Nat}(o:aO H [.int .i64 v.id,wE,w2,wL,w4] v.cd f)(nd:f.Nodup)(bf:b∉f)(hl:v.aq.length=2)(hq:∀l∈v.aq,l.questions.length≤1048576):T Tryz.prog Γ Fn.V7 [.gp b 0 0,.agg [.int .i64 v.id,wE,w2,wL,w4]] H fun r h'=>∃(peer:Int) (m:aB),r=.tup [.int .i64 peer,.agg (cZ m .nils)]∧m.args=[]∧m.name.size≤100∧(m.kind=2∨m.kind=4)∧aR H h' b bs:=by
  have hbl:b<H.length:=by obtain⟨_,_,_,hg⟩:=hc;exact c5 hg
  have d0:aR H H b bs:=⟨hc,Nat.le_refl _,fun _ _ _=>rfl⟩
  obtain⟨wE',w2',wL',w4',fE,f2,fL,f4,hcell,rfl,oE,o2,oL,o4⟩:=lC o
  simp only[List.cons.injEq,true_and,and_true]at hcell
  obtain⟨rfl,rfl,rfl,rfl⟩:=hcell
  obtain⟨a1,a2,a3,a4⟩:=oE.cell
  obtain⟨b1,b2,b3,b4⟩:=o2.cell
  obtain⟨c1,c2,c3,c4⟩:=oL.cell
  obtain⟨d1,d2,d3,d4⟩:=o4.cell
  obtain⟨_,n1,_⟩:=List.nodup_append.1 nd
  obtain⟨_,n2,_⟩:=List.nodup_append.1 n1
  obtain⟨nL,_,_⟩:=List.nodup_append.1 n2
  have lL:=(dE oL).2
  rw[List.length_map,hl]at lL
  replace lL:rE false wL=some (.int .i64 2):=lL
  refine Ts (aD aJ aK [] _ _ _ ?_)
  unfold LK
  simp only[EZ,ag,Nat.reduceAdd,Nat.reduceBEq,jl,eT,eU,aF,aP,ER,EF,EA,ae,an,cg,aY,a1,a2,b1,b2,c1,c2,d1,d2,lL]
  refine ah.ref (by simp only[EO]) (aW _ hb d0.cur _) ?_
  rintro _ H1 ⟨i,rfl,i0,i1,q⟩
  replace q:aR H H1 b bs:=q
  have e1:=d0.trans q
  clear q
  obtain⟨k,rfl⟩:∃k:Nat,i=k:=⟨i.toNat,by omega⟩
  have hk:k<v.aq.length:=by have:=i1 (by omega);omega
  obtain⟨bR,gR,az,fR,iR,hbR,mR,_,rR,oR,nR,sR,lR⟩:=oL.row nL (k:=k) (by simpa using hk)
  rw[List.getElem_map]at oR
  have hbb:bR≠b:=fun e=>bf (e▸bU.2 (.inr (.inr (.inl mR))))
  obtain⟨wX,wQ,wA,fX,fQ,fA,rfl,rfl,oX,oQ,oA⟩:=db oR
  obtain⟨y1,y2,y3,y4⟩:=oQ.cell
  have lQ:=(dE oQ).2
  rw[List.length_map]at lQ
  have sQ:∀c∈fQ,c∈fE++(f2++(fL++f4)):=fun c hc=>bU.2 (.inr (.inr (.inl (sR c (by simp[hc])))))
  have r4:∀{H':AH} (d:aR H H' b bs) (e:List AV) (L:List (List AV)),(St.mk e L H').cells (.gp bR gR (k*7+4)) 1=some [wQ]:=fun d e L=>by rw[od (d.fr bR hbR hbb),rR e L 4 1 (by omega)];rfl
  have r0:∀{H':AH} (d:aR H H' b bs) (e:List AV) (L:List (List AV)),(St.mk e L H').cells (.gp bR gR (k*7)) 1=some [.int .i64 v.aq[k].peer]:=fun d e L=>by rw[od (d.fr bR hbR hbb)];have:=rR e L 0 1 (by omega);rw[Nat.add_zero]at this;rw[this];rfl
  simp only[EZ,ag,Nat.reduceAdd,Nat.reduceBEq,jl,eT,eU,aF,aP,ER,EF,EA,ae,an,cg,aY,a1,a2,b1,b2,c1,c2,d1,d2,lL]
  refine ah.ref (by simp only[EO]) (aW _ hb e1.cur _) ?_
  rintro _ H2 ⟨qq,rfl,_,_,q⟩
  replace q:aR H1 H2 b bs:=q
  have e2:=e1.trans q
  clear q
  have r42:=fun e L=>r4 e2 e L
  simp only[EZ,ag,Nat.reduceAdd,Nat.reduceBEq,jl,eT,eU,aF,aP,ER,EF,EA,ae,an,cg,aY,a1,a2,b1,b2,c1,c2,d1,d2,iR,r42,y1,y2,y3,lQ]
  have FIN:∀(q0:Int) (Hx:AH) (en:List AV),aR H Hx b bs→True:=fun _ _ _ _=>trivial
  by_cases hn:0<(v.aq[k].questions.length:Int)
  · simp only[EZ,ag,Nat.reduceAdd,Nat.reduceBEq,jl,eT,eU,aF,aP,ER,EF,EA,ae,an,cg,aY,a1,a2,b1,b2,c1,c2,d1,d2,show decide ((v.aq[k].questions.length:Int)>0)=true from decide_eq_true hn,decide_eq_true hn]
    refine ah.ref (by simp only[EO]) (ru _ hb e2.cur _) ?_
    rintro _ H3 ⟨on,rfl,q⟩
    replace q:aR H2 H3 b bs:=q
    have e3:=e2.trans q
    clear q
    have r43:=fun e L=>r4 e3 e L
    cases on
    · simp only[EZ,ag,Nat.reduceAdd,Nat.reduceBEq,jl,eT,eU,aF,aP,ER,EF,EA,ae,an,cg,aY,a1,a2,b1,b2,c1,c2,d1,d2,iR,r43,y1,y2,y3,lQ]
      refine ah.ref (by simp only[EO]) (aW _ hb e3.cur _) ?_
      rintro _ H4 ⟨j,rfl,j0,j1,q⟩
      replace q:aR H3 H4 b bs:=q
      have e4:=e3.trans q
      refine⟨j9 fun r hr=>by
        simp only[List.mem_cons,List.not_mem_nil,or_false]at hr
        rcases hr with rfl|rfl
        · exact .inl ⟨_,_,rfl⟩
        · exact .inr ⟨_,_,_,rfl,q.fr bR (by have:=e3.len;omega) hbb⟩,?_⟩
      clear q
      obtain⟨jk,rfl⟩:∃jk:Nat,j=jk:=⟨j.toNat,by omega⟩
      have hjk:jk<v.aq[k].questions.length:=by have:=j1 (by omega);omega
      have nQ:fQ.Nodup:=(List.nodup_append.1 (List.nodup_append.1 nR).2.1).1
      obtain⟨bT,gT,ay,fT,iT,hbT,mT,_,rT,oT,_,_,lT⟩:=oQ.row nQ (k:=jk) (by simpa using hjk)
      rw[List.getElem_map]at oT
      simp only[aH.cd,gI,gD,hU]at oT
      obtain⟨_,_,_,_,rfl,_,⟨rfl,_⟩,⟨_,_,_,_,rfl,_,⟨rfl,_⟩,⟨rfl,_⟩⟩⟩:=oT
      have hbT':bT≠b:=fun e=>bf (e▸sQ bT mT)
      have rt:∀(e:List AV) (L:List (List AV)),(St.mk e L H4).cells (.gp bT gT (jk*2)) 1=some [.int .i64 v.aq[k].questions[jk].id]:=fun e L=>by
        rw[od (e4.fr bT hbT hbT')];have:=rT e L 0 1 (by omega);rw[Nat.add_zero]at this;rw[this];rfl
      have rt':∀(e:List AV) (L:List (List AV)),(St.mk e L H4).cells (.gp bT gT (jk*2+0)) 1=some [.int .i64 v.aq[k].questions[jk].id]:=fun e L=>rt e L
      simp only[EZ,ag,Nat.reduceAdd,Nat.reduceBEq,jl,eT,eU,aF,aP,ER,EF,EA,ae,an,cg,aY,a1,a2,b1,b2,c1,c2,d1,d2,iT,rt,rt']
      refine ah.ref (by simp only[EO]) (xg _ hb e4.cur) ?_
      rintro _ HW ⟨y,rfl,q⟩
      replace q:aR H4 HW b bs:=q
      have eW:=e4.trans q
      clear q
      simp only[EZ,ag,Nat.reduceAdd,Nat.reduceBEq,jl,eT,eU,aF,aP,ER,EF,EA,ae,an,cg,aY,a1,a2,b1,b2,c1,c2,d1,d2]
      refine ah.ref (by simp only[EO]) (ru _ hb eW.cur _) ?_
      rintro _ HZ ⟨on2,rfl,q⟩
      replace q:aR HW HZ b bs:=q
      have eZ:=eW.trans q
      clear q
      have r0Z:=fun e L=>r0 eZ e L
      have r0Y:∀(e:List AV) (L:List (List AV)),(St.mk e L HZ).cells (.gp bR gR (k*7+0)) 1=some [.int .i64 v.aq[k].peer]:=fun e L=>r0 eZ e L
      cases on2
      · simp only[EZ,ag,Nat.reduceAdd,Nat.reduceBEq,jl,eT,eU,aF,aP,ER,EF,EA,ae,an,cg,aY,a1,a2,b1,b2,c1,c2,d1,d2,iR,r0Z,r0Y]
        have fin:∃(peer:Int) (m:aB),(AV.tup [.int .i64 v.aq[k].peer,.agg (cZ ⟨2,0,0,v.aq[k].questions[jk].id,⟨#[]⟩,[],y,0,⟨0,0,0⟩⟩ .nils)])=.tup [.int .i64 peer,.agg (cZ m .nils)]∧m.args=[]∧m.name.size≤100∧(m.kind=2∨m.kind=4)∧aR H HZ b bs:=⟨_,_,rfl,rfl,Nat.zero_le _,.inl rfl,eZ⟩
        first|exact⟨rfl,fin⟩|exact fin
      · simp only[EZ,ag,Nat.reduceAdd,Nat.reduceBEq,jl,eT,eU,aF,aP,ER,EF,EA,ae,an,cg,aY,a1,a2,b1,b2,c1,c2,d1,d2,iR,r0Z,r0Y]
        have fin:∃(peer:Int) (m:aB),(AV.tup [.int .i64 v.aq[k].peer,.agg (cZ ⟨4,0,0,v.aq[k].questions[jk].id,⟨#[]⟩,[],⟨0,0⟩,0,⟨0,0,0⟩⟩ .nils)])=.tup [.int .i64 peer,.agg (cZ m .nils)]∧m.args=[]∧m.name.size≤100∧(m.kind=2∨m.kind=4)∧aR H HZ b bs:=⟨_,_,rfl,rfl,Nat.zero_le _,.inr rfl,eZ⟩
        first|exact⟨rfl,fin⟩|exact fin
    · simp only[EZ,ag,Nat.reduceAdd,Nat.reduceBEq,jl,eT,eU,aF,aP,ER,EF,EA,ae,an,cg,aY,a1,a2,b1,b2,c1,c2,d1,d2]
      refine ah.ref (by simp only[EO]) (xg _ hb e3.cur) ?_
      rintro _ HW ⟨y,rfl,q⟩
      replace q:aR H3 HW b bs:=q
      have eW:=e3.trans q
      clear q
      simp only[EZ,ag,Nat.reduceAdd,Nat.reduceBEq,jl,eT,eU,aF,aP,ER,EF,EA,ae,an,cg,aY,a1,a2,b1,b2,c1,c2,d1,d2]
      refine ah.ref (by simp only[EO]) (ru _ hb eW.cur _) ?_
      rintro _ HZ ⟨on2,rfl,q⟩
      replace q:aR HW HZ b bs:=q
      have eZ:=eW.trans q
      clear q
      have r0Z:=fun e L=>r0 eZ e L
      have r0Y:∀(e:List AV) (L:List (List AV)),(St.mk e L HZ).cells (.gp bR gR (k*7+0)) 1=some [.int .i64 v.aq[k].peer]:=fun e L=>r0 eZ e L
      cases on2
      · simp only[EZ,ag,Nat.reduceAdd,Nat.reduceBEq,jl,eT,eU,aF,aP,ER,EF,EA,ae,an,cg,aY,a1,a2,b1,b2,c1,c2,d1,d2,iR,r0Z,r0Y]
        have fin:∃(peer:Int) (m:aB),(AV.tup [.int .i64 v.aq[k].peer,.agg (cZ ⟨2,0,0,IntKind.i64.wrap (1+qq),⟨#[]⟩,[],y,0,⟨0,0,0⟩⟩ .nils)])=.tup [.int .i64 peer,.agg (cZ m .nils)]∧m.args=[]∧m.name.size≤100∧(m.kind=2∨m.kind=4)∧aR H HZ b bs:=⟨_,_,rfl,rfl,Nat.zero_le _,.inl rfl,eZ⟩
        first|exact⟨rfl,fin⟩|exact fin
      · simp only[EZ,ag,Nat.reduceAdd,Nat.reduceBEq,jl,eT,eU,aF,aP,ER,EF,EA,ae,an,cg,aY,a1,a2,b1,b2,c1,c2,d1,d2,iR,r0Z,r0Y]
        have fin:∃(peer:Int) (m:aB),(AV.tup [.int .i64 v.aq[k].peer,.agg (cZ ⟨4,0,0,IntKind.i64.wrap (1+qq),⟨#[]⟩,[],⟨0,0⟩,0,⟨0,0,0⟩⟩ .nils)])=.tup [.int .i64 peer,.agg (cZ m .nils)]∧m.args=[]∧m.name.size≤100∧(m.kind=2∨m.kind=4)∧aR H HZ b bs:=⟨_,_,rfl,rfl,Nat.zero_le _,.inr rfl,eZ⟩
        first|exact⟨rfl,fin⟩|exact fin
  · simp only[EZ,ag,Nat.reduceAdd,Nat.reduceBEq,jl,eT,eU,aF,aP,ER,EF,EA,ae,an,cg,aY,a1,a2,b1,b2,c1,c2,d1,d2,show decide ((v.aq[k].questions.length:Int)>0)=false from decide_eq_false hn,decide_eq_false hn]
    refine ah.ref (by simp only[EO]) (xg _ hb e2.cur) ?_
    rintro _ HW ⟨y,rfl,q⟩
    replace q:aR H2 HW b bs:=q
    have eW:=e2.trans q
    clear q
    simp only[EZ,ag,Nat.reduceAdd,Nat.reduceBEq,jl,eT,eU,aF,aP,ER,EF,EA,ae,an,cg,aY,a1,a2,b1,b2,c1,c2,d1,d2]
    refine ah.ref (by simp only[EO]) (ru _ hb eW.cur _) ?_
    rintro _ HZ ⟨on2,rfl,q⟩
    replace q:aR HW HZ b bs:=q
    have eZ:=eW.trans q
    clear q
    have r0Z:=fun e L=>r0 eZ e L
    have r0Y:∀(e:List AV) (L:List (List AV)),(St.mk e L HZ).cells (.gp bR gR (k*7+0)) 1=some [.int .i64 v.aq[k].peer]:=fun e L=>r0 eZ e L
    cases on2
    · simp only[EZ,ag,Nat.reduceAdd,Nat.reduceBEq,jl,eT,eU,aF,aP,ER,EF,EA,ae,an,cg,aY,a1,a2,b1,b2,c1,c2,d1,d2,iR,r0Z,r0Y]
      have fin:∃(peer:Int) (m:aB),(AV.tup [.int .i64 v.aq[k].peer,.agg (cZ ⟨2,0,0,IntKind.i64.wrap (1+qq),⟨#[]⟩,[],y,0,⟨0,0,0⟩⟩ .nils)])=.tup [.int .i64 peer,.agg (cZ m .nils)]∧m.args=[]∧m.name.size≤100∧(m.kind=2∨m.kind=4)∧aR H HZ b bs:=⟨_,_,rfl,rfl,Nat.zero_le _,.inl rfl,eZ⟩
      first|exact⟨rfl,fin⟩|exact fin
    · simp only[EZ,ag,Nat.reduceAdd,Nat.reduceBEq,jl,eT,eU,aF,aP,ER,EF,EA,ae,an,cg,aY,a1,a2,b1,b2,c1,c2,d1,d2,iR,r0Z,r0Y]
      have fin:∃(peer:Int) (m:aB),(AV.tup [.int .i64 v.aq[k].peer,.agg (cZ ⟨4,0,0,IntKind.i64.wrap (1+qq),⟨#[]⟩,[],⟨0,0⟩,0,⟨0,0,0⟩⟩ .nils)])=.tup [.int .i64 peer,.agg (cZ m .nils)]∧m.args=[]∧m.name.size≤100∧(m.kind=2∨m.kind=4)∧aR H HZ b bs:=⟨_,_,rfl,rfl,Nat.zero_le _,.inr rfl,eZ⟩
      first|exact⟨rfl,fin⟩|exact fin
end Go.Proofs.YtccjhmhkfnnmaaaGreat
namespace Go.Proofs.YtccjhmhkfnnmaaaGreat
open Go.AM
variable {Γ:cj}
theorem GI.of{v:aA}(d:DI 0 v):GI 60 v:=by
  obtain⟨K,h1,N,p1,p2,p3⟩:=d.lb
  exact⟨d.vi,by have:=d.w;omega,⟨N,p1,by omega,p3⟩,d.ne⟩
theorem GI.aq{K:Nat}{v:aA}(g:GI K v):v.aq.length=2:=by
  obtain⟨N,_,_,h⟩:=g.lb
  exact h
set_option maxHeartbeats 8000000 in
set_option maxRecDepth 100000 in
theorem Qu(h:AH){b:Nat}{bs:List Int}(hb:bs.length≤1073741824)(hc:nc h b bs):T Tryz.prog Γ Fn.VB [.gp b 0 0] h fun r H'=>∃v wE w2 wL w4 f,r=.agg [.int .i64 v.id,wE,w2,wL,w4]∧GI 90 v∧VC h H' b bs v wE w2 wL w4 f:=by
  have hbl:b<h.length:=by obtain⟨_,_,_,hg⟩:=hc;exact c5 hg
  refine PL (aD aJ aK [] _ _ _ ?_)
  unfold JT
  simp only[EZ,ag,Nat.reduceAdd,Nat.reduceBEq,qE,aF,aP,ER,EF,EA]
  refine ah.ref (by simp only[EO]) (Tr h hb hc) ?_
  rintro _ H1 ⟨v0,wE,w2,wL,w4,f,rfl,ds,x1⟩
  replace x1:VC h H1 b bs v0 wE w2 wL w4 f:=x1
  obtain⟨⟨a1,a2,a3,a4⟩,⟨b1,b2,b3,b4⟩,⟨c1,c2,c3,c4⟩,⟨d1,d2,d3,d4⟩,lE⟩:=x1.cell
  have g0:=GI.of ds
  simp only[EZ,ag,Nat.reduceAdd,Nat.reduceBEq,qE,aF,aP,ER,EF,EA,a1,a2,a3,b1,b2,b3,c1,c2,c3,d1,d2,d3]
  refine ah.ref (by simp only[EO]) (aW _ hb x1.dr.cur _) ?_
  rintro _ H2 ⟨kC,rfl,cnt0,cnt1,q2⟩
  replace q2:aR H1 H2 b bs:=q2
  have x2:=x1.draw q2
  replace cnt1:=cnt1 (by omega)
  obtain⟨k0,rfl⟩:∃k0:Nat,kC=k0:=⟨kC.toNat,by omega⟩
  simp only[EZ,ag,Nat.reduceAdd,Nat.reduceBEq,qE,aF,aP,ER,EF,EA]
  refine dD aJ aK [] (fun x:Nat×aA×AV×AV×AV×AV×List Nat×AH×List (List AV)=>x.1≤3∧GI (90-10*x.1) x.2.1∧VC h x.2.2.2.2.2.2.2.1 b bs x.2.1 x.2.2.1 x.2.2.2.1 x.2.2.2.2.1 x.2.2.2.2.2.1 x.2.2.2.2.2.2.1) (fun x=>x.1)
    (fun x=>C6 (.gp b 0 0) (.lp ([]:List (List AV)).length 0) (.lp (([]:List (List AV)).length+1) 0) (.int .i64 x.1) (LL z5 [.int .i64 x.2.1.id,x.2.2.1,x.2.2.2.1,x.2.2.2.2.1,x.2.2.2.2.2.1] x.2.2.2.2.2.2.2.2) x.2.2.2.2.2.2.2.1) (k0,v0,wE,w2,wL,w4,_,H2,[]) ⟨by simp only;omega,g0.mono (by simp only;omega),x2⟩ ⟨by simp[C6,eP,eM],rfl,rfl⟩ ?_
  clear a1 a2 a3 a4 b1 b2 b3 b4 c1 c2 c3 c4 d1 d2 d3 d4 lE x1 x2
  rintro⟨k,v,wE,w2,wL,w4,f,Hi,M⟩ ⟨hk,g,xi⟩
  simp only at hk g xi
  obtain⟨⟨a1,a2,a3,a4⟩,⟨b1,b2,b3,b4⟩,⟨c1,c2,c3,c4⟩,⟨d1,d2,d3,d4⟩,lE⟩:=xi.cell
  simp only[EZ,ag,Nat.reduceAdd,Nat.reduceBEq,qE,C6,aF,aP,ER,EF,EA]
  refine bI (fun hgt=>?_) (fun hge=>?_)
  rotate_left
  · have hge:k=0:=by simp at hge;omega
    subst hge
    have st0:∀(e:List AV) (h:AH),(St.mk e (LL z5 [.int .i64 v.id,wE,w2,wL,w4] M) h).store (.lp (([]:List (List AV)).length) 0) [.int .i64 v.id,wE,w2,wL,w4]=some ⟨e,LL [.int .i64 v.id,wE,w2,wL,w4] [.int .i64 v.id,wE,w2,wL,w4] M,h⟩:=fun e h=>tG (by simp) (by simp only[List.all_cons,List.all_nil,a2,b2,c2,d2];rfl)
    simp only[EZ,ag,Nat.reduceAdd,Nat.reduceBEq,qE,aF,aP,ER,EF,EA,cg,aY,a1,a2,a3,b1,b2,b3,c1,c2,c3,d1,d2,d3,st0]
    exact⟨by simp only[c7,EO,a3,a4,b3,b4,c3,c4,d3,d4],v,wE,w2,wL,w4,f,rfl,g,xi⟩
  have hgt:0<k:=by simp at hgt;omega
  obtain⟨m1,rfl⟩:∃m1,k=m1+1:=⟨k-1,by omega⟩
  simp only[EZ,ag,Nat.reduceAdd,Nat.reduceBEq,qE,aF,aP,ER,EF,EA,cg,aY,dv,a1,a2,a3,b1,b2,b3,c1,c2,c3,d1,d2,d3]
  refine ah.ref (by simp only[EO,a3,a4,b3,b4,c3,c4,d3,d4]) (S7 Hi hb xi.dr.cur v.id wE w2 wL w4 a1 a2 b1 b2 c1 c2 d1 d2) ?_
  rintro _ Hj ⟨fm,_,rfl,m,w,fp,rfl,ow,nw,bw,ha,hn,q⟩
  replace q:aR Hi Hj b bs:=q
  replace ow:bN Hj w _ fp:=ow
  have x3:=xi.draw q
  obtain⟨w1,w2',w3,w4'⟩:=ow.cell
  have sx:∀(e:List AV) (h:AH),(St.mk e (LL z5 [.int .i64 v.id,wE,w2,wL,w4] M++[vI]) h).store (.lp (M.length+2) 0) (cZ m w)=some ⟨e,LL z5 [.int .i64 v.id,wE,w2,wL,w4] M++[cZ m w],h⟩:=fun e h=>by
    have:=oq (e:=e) (h:=h) (c0:=z5) (row:=[.int .i64 v.id,wE,w2,wL,w4]) (X:=M) (Y:=[]) (z:=vI) (off:=0) (vs:=cZ m w) (by simp[cZ]) (by simp only[cZ,List.all_cons,List.all_nil,w2'];rfl)
    rw[qV (by simp[cZ])]at this
    exact this
  have rx:=fun e h off n=>gz (e:=e) (h:=h) (c0:=z5) (row:=[.int .i64 v.id,wE,w2,wL,w4]) (X:=M) (Y:=[]) (cZ m w) off n
  simp only[cZ]at sx rx
  simp only[EZ,ag,Nat.reduceAdd,Nat.reduceBEq,qE,aF,aP,ER,EF,EA,cg,aY,Ie,dB,dv,a1,a2,a3,b1,b2,b3,c1,c2,c3,d1,d2,d3,cZ,w1,w2',w3,sx,rx]
  refine ah.Pv (by simp only[EO,a3,b3,c3,d3,w3,w4',a4,b4,c4,d4]) (aI (aO.dT (aA.bM true v) x3.own) (aI (.same _) (aI (aO.dT (aB.bM true m) (El ow)) bm))) (QZ true true v g (by omega) fm m (by omega) hn) ?_
  rintro v' g' _ H6 fr
  replace fr:aS Hj _ _ _:=fr
  obtain⟨ac,f',rfl,o',n',b',eg⟩:=fr.a1
  obtain⟨wE',y2',wL',y4',_,_,_,_,rfl,_,_⟩:=ju o'
  have lh:=x3.dr.len
  have xx:VC h H6 b bs v' wE' y2' wL' y4' f':=⟨o',n',fun c hc=>by have:=b' c hc;exact⟨by omega,by omega⟩,x3.dr.trans (.kO x3.dr.cur eg)⟩
  obtain⟨⟨aa1,aa2,aa3,aa4⟩,⟨bb1,bb2,bb3,bb4⟩,⟨cc1,cc2,cc3,cc4⟩,⟨dd1,dd2,dd3,dd4⟩,_⟩:=xx.cell
  have s5:=fun e h=>Bs (e:=e) (h:=h) (id:=v.id) (i':=v'.id) (a:=wE) (b:=w2) (c:=wL) (d:=w4) (X:=M) (Y:=[cZ m w]) aa2 bb2 cc2 dd2
  simp only[cZ]at s5
  simp only[EZ,ag,Nat.reduceAdd,Nat.reduceBEq,qE,aF,aP,ER,EF,EA,cg,aY,a1,a2,a3,b1,b2,b3,c1,c2,c3,d1,d2,d3,aa1,aa2,aa3,bb1,bb2,bb3,cc1,cc2,cc3,dd1,dd2,dd3,s5]
  exact⟨(m1,v',wE',y2',wL',y4',f',H6,M++[cZ m w]),⟨by simp only;omega,g'.mono (by simp only;omega),xx⟩,by simp only;omega,⟨by rw[DA (by omega)];simp[eP,eM],rfl,rfl⟩⟩
set_option maxHeartbeats 8000000 in
set_option maxRecDepth 100000 in
theorem TL(h:AH){b:Nat}{bs:List Int}(hb:bs.length≤1073741824)(hc:nc h b bs):T Tryz.prog Γ Fn.Vt [.gp b 0 0] h fun r H'=>∃v wE w2 wL w4 f,r=.agg [.int .i64 v.id,wE,w2,wL,w4]∧GI 93 v∧VC h H' b bs v wE w2 wL w4 f:=by
  have hbl:b<h.length:=by obtain⟨_,_,_,hg⟩:=hc;exact c5 hg
  refine TM (aD aJ aK [] _ _ _ ?_)
  unfold Nf
  simp only[EZ,ag,Nat.reduceAdd,Nat.reduceBEq,qU,aF,aP,ER,EF,EA]
  refine ah.ref (by simp only[EO]) (Qu h hb hc) ?_
  rintro _ H1 ⟨v0,wE,w2,wL,w4,f,rfl,ds,x1⟩
  replace x1:VC h H1 b bs v0 wE w2 wL w4 f:=x1
  obtain⟨⟨a1,a2,a3,a4⟩,⟨b1,b2,b3,b4⟩,⟨c1,c2,c3,c4⟩,⟨d1,d2,d3,d4⟩,lE⟩:=x1.cell
  have g0:=ds
  simp only[EZ,ag,Nat.reduceAdd,Nat.reduceBEq,qU,aF,aP,ER,EF,EA,a1,a2,a3,b1,b2,b3,c1,c2,c3,d1,d2,d3]
  refine ah.ref (by simp only[EO]) (aW _ hb x1.dr.cur _) ?_
  rintro _ H2 ⟨kC,rfl,cnt0,cnt1,q2⟩
  replace q2:aR H1 H2 b bs:=q2
  have x2:=x1.draw q2
  replace cnt1:=cnt1 (by omega)
  obtain⟨k0,rfl⟩:∃k0:Nat,kC=k0:=⟨kC.toNat,by omega⟩
  simp only[EZ,ag,Nat.reduceAdd,Nat.reduceBEq,qU,aF,aP,ER,EF,EA]
  refine dD aJ aK [] (fun x:Nat×aA×AV×AV×AV×AV×List Nat×AH×List (List AV)=>x.1≤3∧GI (93-1*x.1) x.2.1∧VC h x.2.2.2.2.2.2.2.1 b bs x.2.1 x.2.2.1 x.2.2.2.1 x.2.2.2.2.1 x.2.2.2.2.2.1 x.2.2.2.2.2.2.1) (fun x=>x.1)
    (fun x=>CJ (.gp b 0 0) (.lp ([]:List (List AV)).length 0) (.lp (([]:List (List AV)).length+1) 0) (.int .i64 x.1) (LL z5 [.int .i64 x.2.1.id,x.2.2.1,x.2.2.2.1,x.2.2.2.2.1,x.2.2.2.2.2.1] x.2.2.2.2.2.2.2.2) x.2.2.2.2.2.2.2.1) (k0,v0,wE,w2,wL,w4,_,H2,[]) ⟨by simp only;omega,g0.mono (by simp only;omega),x2⟩ ⟨by simp[CJ,eP,eM],rfl,rfl⟩ ?_
  clear a1 a2 a3 a4 b1 b2 b3 b4 c1 c2 c3 c4 d1 d2 d3 d4 lE x1 x2
  rintro⟨k,v,wE,w2,wL,w4,f,Hi,M⟩ ⟨hk,g,xi⟩
  simp only at hk g xi
  obtain⟨⟨a1,a2,a3,a4⟩,⟨b1,b2,b3,b4⟩,⟨c1,c2,c3,c4⟩,⟨d1,d2,d3,d4⟩,lE⟩:=xi.cell
  simp only[EZ,ag,Nat.reduceAdd,Nat.reduceBEq,qU,CJ,aF,aP,ER,EF,EA]
  refine bI (fun hgt=>?_) (fun hge=>?_)
  rotate_left
  · have hge:k=0:=by simp at hge;omega
    subst hge
    have st0:∀(e:List AV) (h:AH),(St.mk e (LL z5 [.int .i64 v.id,wE,w2,wL,w4] M) h).store (.lp (([]:List (List AV)).length) 0) [.int .i64 v.id,wE,w2,wL,w4]=some ⟨e,LL [.int .i64 v.id,wE,w2,wL,w4] [.int .i64 v.id,wE,w2,wL,w4] M,h⟩:=fun e h=>tG (by simp) (by simp only[List.all_cons,List.all_nil,a2,b2,c2,d2];rfl)
    simp only[EZ,ag,Nat.reduceAdd,Nat.reduceBEq,qU,aF,aP,ER,EF,EA,cg,aY,a1,a2,a3,b1,b2,b3,c1,c2,c3,d1,d2,d3,st0]
    exact⟨by simp only[c7,EO,a3,a4,b3,b4,c3,c4,d3,d4],v,wE,w2,wL,w4,f,rfl,g,xi⟩
  have hgt:0<k:=by simp at hgt;omega
  obtain⟨m1,rfl⟩:∃m1,k=m1+1:=⟨k-1,by omega⟩
  simp only[EZ,ag,Nat.reduceAdd,Nat.reduceBEq,qU,aF,aP,ER,EF,EA,cg,aY,dv,a1,a2,a3,b1,b2,b3,c1,c2,c3,d1,d2,d3]
  refine ah.ref (by simp only[EO,a3,a4,b3,b4,c3,c4,d3,d4]) (RO Hi hb xi.dr.cur xi.own xi.nd (fun q=>(xi.bf b q).2 rfl) g.aq (fun l hl=>(g.vi.Ff.mono (show wV v+100≤1048576 by have:=g.w;omega) l hl).2.1)) ?_
  rintro _ Hj ⟨fm,m,rfl,ha,hn,hkd,q⟩
  replace q:aR Hi Hj b bs:=q
  have ow:bN Hj .nils (.sl 2 (m.args.map aV.cd)) []:=by rw[ha];exact .nil _
  have x3:=xi.draw q
  obtain⟨w1,w2',w3,w4'⟩:=ow.cell
  have sx:∀(e:List AV) (h:AH),(St.mk e (LL z5 [.int .i64 v.id,wE,w2,wL,w4] M++[vI]) h).store (.lp (M.length+2) 0) (cZ m .nils)=some ⟨e,LL z5 [.int .i64 v.id,wE,w2,wL,w4] M++[cZ m .nils],h⟩:=fun e h=>by
    have:=oq (e:=e) (h:=h) (c0:=z5) (row:=[.int .i64 v.id,wE,w2,wL,w4]) (X:=M) (Y:=[]) (z:=vI) (off:=0) (vs:=cZ m .nils) (by simp[cZ]) (by simp only[cZ,List.all_cons,List.all_nil,w2'];rfl)
    rw[qV (by simp[cZ])]at this
    exact this
  have rx:=fun e h off n=>gz (e:=e) (h:=h) (c0:=z5) (row:=[.int .i64 v.id,wE,w2,wL,w4]) (X:=M) (Y:=[]) (cZ m .nils) off n
  simp only[cZ]at sx rx
  simp only[EZ,ag,Nat.reduceAdd,Nat.reduceBEq,qU,aF,aP,ER,EF,EA,cg,aY,Ie,dB,dv,a1,a2,a3,b1,b2,b3,c1,c2,c3,d1,d2,d3,cZ,w1,w2',w3,sx,rx]
  refine ah.Pv (by simp only[EO,a3,b3,c3,d3,w3,w4',a4,b4,c4,d4]) (aI (aO.dT (aA.bM true v) x3.own) (aI (.same _) (aI (aO.dT (aB.bM true m) (El ow)) bm))) (Ri true true v g (by omega) fm m (by rw[ha];exact Nat.zero_le _) hn hkd) ?_
  rintro v' g' _ H6 fr
  replace fr:aS Hj _ _ _:=fr
  obtain⟨ac,f',rfl,o',n',b',eg⟩:=fr.a1
  obtain⟨wE',y2',wL',y4',_,_,_,_,rfl,_,_⟩:=ju o'
  have lh:=x3.dr.len
  have xx:VC h H6 b bs v' wE' y2' wL' y4' f':=⟨o',n',fun c hc=>by have:=b' c hc;exact⟨by omega,by omega⟩,x3.dr.trans (.kO x3.dr.cur eg)⟩
  obtain⟨⟨aa1,aa2,aa3,aa4⟩,⟨bb1,bb2,bb3,bb4⟩,⟨cc1,cc2,cc3,cc4⟩,⟨dd1,dd2,dd3,dd4⟩,_⟩:=xx.cell
  have s5:=fun e h=>Bs (e:=e) (h:=h) (id:=v.id) (i':=v'.id) (a:=wE) (b:=w2) (c:=wL) (d:=w4) (X:=M) (Y:=[cZ m .nils]) aa2 bb2 cc2 dd2
  simp only[cZ]at s5
  simp only[EZ,ag,Nat.reduceAdd,Nat.reduceBEq,qU,aF,aP,ER,EF,EA,cg,aY,a1,a2,a3,b1,b2,b3,c1,c2,c3,d1,d2,d3,aa1,aa2,aa3,bb1,bb2,bb3,cc1,cc2,cc3,dd1,dd2,dd3,s5]
  exact⟨(m1,v',wE',y2',wL',y4',f',H6,M++[cZ m .nils]),⟨by simp only;omega,g'.mono (by simp only;omega),xx⟩,by simp only;omega,⟨by rw[DA (by omega)];simp[eP,eM],rfl,rfl⟩⟩
end Go.Proofs.YtccjhmhkfnnmaaaGreat
namespace Go.Proofs.YtccjhmhkfnnmaaaGreat
open Go.AM
variable {Γ:cj}
theorem Sx(n:Int)(h:AH):T Tryz.prog Γ Fn.VD [.int .i64 n] h fun v h'=>v=.bool (qe n 1 999999)∧h'=h:=by
  refine P6 (aD aJ aK [] _ _ _ ?_)
  unfold MH
  simp only[EV,EL]
  refine ah.val (by simp only[EO]) (Gh n 1 999999 h) ?_
  simp only[EV,EL,Nk]
  exact rfl
structure eu where
  n:Int
  g:Int
  t:Int
  e:Int
  deriving DecidableEq
def eu.c(x:eu):List AV:=[.int .i64 x.n,.int .i64 x.g,.int .i64 x.t,.int .i64 x.e]
def gK(l:List eu):List (List AV):=l.map eu.c
theorem gO(l:List eu):(gK l).length=l.length:=by simp[gK]
theorem sL(l:List eu)(k:Nat)(h:k<(gK l).length):(gK l)[k]=(l[k]'(by simpa[gK]using h)).c:=by simp[gK]
theorem Cp(l:List eu):∀x∈gK l,x.length=4∧x.all bo=true:=by
  intro x hx;simp[gK]at hx;obtain⟨a,_,rfl⟩:=hx;exact⟨rfl,rfl⟩
def eu.nG(x:eu):Bool:=qe x.n 1 999999 && (qe x.g 1 4 && (qe x.t 1 4 && (!(x.g == x.t) && !(decide (x.e<0)))))
def eu.same(x o:eu):Bool:=o.n == x.n && o.g == x.g
def iA:List eu→List eu→Bool
  | _,[]=>true
  | pre,x::r=>x.nG && (!pre.any x.same && iA (pre++[x]) r)
def km(l:List eu):Bool:=iA [] l && decide (l.length≤12)
theorem uk{l:List eu}{k:Nat}(hk:k<l.length):iA (l.take k) (l.drop k)=(l[k].nG && (!(l.take k).any l[k].same && iA (l.take (k+1)) (l.drop (k+1)))):=by
  rw[List.drop_eq_getElem_cons hk,iA,List.take_succ_eq_append_getElem hk]
theorem TG(s:SH)(l:List eu)(hs:s.ok l.length)(hb:l.length≤1099511627)(h:AH):
    T Tryz.prog Γ Fn.OP [sl s 4 (gK l)] h fun v h'=>v=.bool (km l)∧h'=h:=by
  have hs':s.ok (gK l).length:=by rw[gO];exact hs
  have L0:=CR (sz:=4) hs'
  rw[gO]at L0
  generalize e0:sl s 4 (gK l)=a0 at *
  refine O3 (aD aJ aK [] _ _ _ ?_)
  unfold Mf
  simp only[EV,EL]
  refine dD aJ aK [] (fun x:Nat×List (List AV)=>x.1≤l.length∧iA [] l=iA (l.take x.1) (l.drop x.1)) (fun x=>l.length-x.1)
    (fun x=>CQ a0 (.int .i64 x.1) x.2 h) (0,[]) ⟨by simp,by simp⟩ ⟨by simp[CQ,eP,eM],rfl,rfl⟩ ?_
  rintro⟨k,L⟩ ⟨hk,hI⟩
  simp only at hk hI
  simp only[EV,EL,CQ,L0]
  refine bI (fun hlt=>?_) (fun hge=>?_)
  · have hlt:k<l.length:=by simpa using hlt
    have i0:=A3 (sz:=4) hs' (k:=k) (by rw[gO];exact hlt)
    rw[e0,sL]at i0
    rw[uk hlt]at hI
    obtain⟨x,hx⟩:∃x,x=l[k]:=⟨_,rfl⟩
    rw[←hx]at i0 hI
    have hret:∀b:Bool,iA [] l=false→b=false→b=km l:=fun b h1 h2=>by rw[h2,km,h1];rfl
    simp only[EV,EL,EB,i0,eu.c,if_true,Nat.reduceAdd,List.length_nil]
    refine ah.val (by simp only[EO]) (dH x.n 1 999999 h) ?_
    cases b1:qe x.n 1 999999
    · simp only[EV,EL,Bool.not_false,Bool.not_true,if_true,Bool.false_eq_true,if_false,tD]
      exact⟨rfl,by rw[km,hI];simp[eu.nG,b1]⟩
    simp only[EV,EL,EB,Bool.not_false,Bool.not_true,if_true,Bool.false_eq_true,if_false,Nat.reduceAdd]
    refine ah.val (by simp only[EO]) (dH x.g 1 4 h) ?_
    cases b2:qe x.g 1 4
    · simp only[EV,EL,Bool.not_false,Bool.not_true,if_true,Bool.false_eq_true,if_false,tD]
      exact⟨rfl,by rw[km,hI];simp[eu.nG,b2]⟩
    simp only[EV,EL,EB,Bool.not_false,Bool.not_true,if_true,Bool.false_eq_true,if_false,Nat.reduceAdd]
    refine ah.val (by simp only[EO]) (dH x.t 1 4 h) ?_
    cases b3:qe x.t 1 4
    · simp only[EV,EL,Bool.not_false,Bool.not_true,if_true,Bool.false_eq_true,if_false,tD]
      exact⟨rfl,by rw[km,hI];simp[eu.nG,b3]⟩
    cases b4:(x.g == x.t)
    rotate_left
    · simp only[EV,EL,EB,b4,Bool.not_false,Bool.not_true,if_true,Bool.false_eq_true,if_false,Nat.reduceAdd,tD]
      exact⟨rfl,by rw[km,hI];simp only[eu.nG,b4];simp⟩
    cases b5:decide (x.e<0)
    rotate_left
    · simp only[EV,EL,EB,b4,b5,Bool.not_false,Bool.not_true,if_true,Bool.false_eq_true,if_false,Nat.reduceAdd,tD]
      exact⟨rfl,by rw[km,hI];simp only[eu.nG,b5];simp⟩
    have hgood:x.nG=true:=by simp only[eu.nG,b1,b2,b3,b4,b5];rfl
    rw[hgood,Bool.true_and]at hI
    simp only[EV,EL,EB,b4,b5,Bool.not_false,Bool.not_true,if_true,Bool.false_eq_true,if_false,Nat.reduceAdd]
    refine dD aJ aK [] (fun j:Nat=>j≤k∧(l.take j).any x.same=false) (fun j=>k-j)
      (fun j=>Dk a0 (.int .i64 k) (.lp L.length 0) (.int .i64 j) (L++[x.c]) h) 0 ⟨by omega,by simp⟩ ⟨by simp[Dk,eP,eM],rfl,rfl⟩ ?_
    rintro j ⟨hj,hJ⟩
    simp only[EV,EL,Dk]
    refine bI (fun hlt1=>?_) (fun hge1=>?_)
    · have hlt1:j<k:=by simpa using hlt1
      have i1:=A3 (sz:=4) hs' (k:=j) (by rw[gO];omega)
      rw[e0,sL]at i1
      obtain⟨y,hy⟩:∃y,y=l[j]:=⟨_,rfl⟩
      rw[←hy]at i1
      have hnext:(l.take (j+1)).any x.same=(y.n == x.n && y.g == x.g):=by
        rw[List.take_succ_eq_append_getElem (by omega),List.any_append,hJ,←hy];simp[eu.same]
      cases c1:(y.n == x.n)
      · simp only[EV,EL,EB,uS,i1,eu.c,c1,Bool.not_false,Bool.not_true,if_true,Bool.false_eq_true,if_false,Nat.reduceAdd,List.drop_zero,List.drop_succ_cons]
        refine⟨j+1,⟨hlt1,by rw[hnext,c1];rfl⟩,by omega,⟨?_,rfl,rfl⟩⟩
        rw[wN (by omega)]
        simp[eP,eM]
      cases c2:(y.g == x.g)
      · simp only[EV,EL,EB,uS,i1,eu.c,c1,c2,Bool.not_false,Bool.not_true,if_true,Bool.false_eq_true,if_false,Nat.reduceAdd,List.drop_zero,List.drop_succ_cons]
        refine⟨j+1,⟨hlt1,by rw[hnext,c2];simp⟩,by omega,⟨?_,rfl,rfl⟩⟩
        rw[wN (by omega)]
        simp[eP,eM]
      · simp only[EV,EL,EB,uS,i1,eu.c,c1,c2,Bool.not_false,Bool.not_true,if_true,Bool.false_eq_true,if_false,Nat.reduceAdd,List.drop_zero,List.drop_succ_cons,tD]
        refine⟨rfl,?_⟩
        have:(l.take k).any x.same=true:=by
          rw[List.any_eq_true]
          refine⟨y,?_,by simp[eu.same,c1,c2]⟩
          rw[hy,List.mem_take_iff_getElem]
          exact⟨j,by omega,rfl⟩
        rw[km,hI,this];rfl
    · have hge1:j=k:=by simp at hge1;omega
      subst hge1
      simp only[EV,EL]
      refine⟨(j+1,L++[x.c]),⟨hlt,by rw[hI,hJ];rfl⟩,by simp only;omega,⟨?_,rfl,rfl⟩⟩
      rw[wN (by omega)]
      simp[eP,eM]
  · have hge:k=l.length:=by simp at hge;omega
    simp only[EV,EL,L0,tD]
    refine⟨rfl,?_⟩
    rw[km,hI,hge,List.drop_length,iA,Bool.true_and]
    simp
    omega
theorem Si(x o:eu)(H:AH){b:Nat}(hb:bJ H b=some (0,x.c)):T Tryz.prog Γ Fn.Vh [.agg o.c,.gp b 0 0] H fun v h'=>v=.bool (x.same o)∧h'=H:=by
  refine Th (aD aJ aK [] _ _ _ ?_)
  unfold LG
  have hc:∀(e:List AV) (l:List (List AV)) (off n:Nat),(St.mk e l H).cells (.gp b 0 off) n=sub x.c off n:=fun e l off n=>bk hb
  cases c1:(o.n == x.n)
  · simp only[EV,EL,EB,hc,eu.c,c1,Bool.not_false,Bool.not_true,if_true,Bool.false_eq_true,if_false,Nat.reduceAdd,DZ]
    exact⟨rfl,by simp[eu.same,c1]⟩
  cases c2:(o.g == x.g)
  · simp only[EV,EL,EB,hc,eu.c,c1,c2,Bool.not_false,Bool.not_true,if_true,Bool.false_eq_true,if_false,Nat.reduceAdd,DZ]
    exact⟨rfl,by simp[eu.same,c2]⟩
  · simp only[EV,EL,EB,hc,eu.c,c1,c2,Bool.not_false,Bool.not_true,if_true,Bool.false_eq_true,if_false,Nat.reduceAdd,DZ]
    exact⟨rfl,by simp[eu.same,c1,c2]⟩
def Lh(x:eu)(o:List AV):Bool:=match o with|[.int _ a,.int _ b,.int _ c,.int _ d]=>x.same ⟨a,b,c,d⟩|_=>false
theorem ET(x:eu)(l:List eu):(gK l).any (Lh x)=l.any x.same:=by
  induction l with
  | nil=>rfl
  | cons y l ih=>simp only[gK,List.map_cons,List.any_cons]at ih ⊢;rw[ih];rfl
theorem CZ(l:List eu)(k:Nat):(gK l).take k=gK (l.take k):=by simp[gK,List.map_take]
theorem UC(s:SH)(l:List eu)(hs:s.ok l.length)(hb:l.length≤1099511627)(h:AH):
    T Tryz.prog Γ Fn.OM [sl s 4 (gK l)] h fun v h'=>v=.bool (km l)∧h'=h:=by
  refine(?_:T Tryz.prog Γ Fn.OM [sl s 4 (gK l)] h fun v h'=>v=.bool (km l)∧∃N,h'=h++N).drop (by
    rintro v h' ⟨rfl,N,rfl⟩;exact⟨N,rfl,.bool _,rfl,rfl⟩)
  have hs':s.ok (gK l).length:=by rw[gO];exact hs
  have L0:=CR (sz:=4) hs'
  rw[gO]at L0
  refine Rt (aD aJ aK [4] _ _ _ ?_)
  unfold J1
  simp only[EV,EL,L0,Nat.reduceBEq]
  refine dD aJ aK [4] (fun x:Nat×AH=>x.1≤l.length∧iA [] l=iA (l.take x.1) (l.drop x.1)∧∃N,x.2=h++N) (fun x=>l.length-x.1)
    (fun x=>CW (sl s 4 (gK l)) (sl s 4 (gK l)) (.int .i64 l.length) (.int .i64 x.1) [] x.2) (0,h) ⟨by simp,by simp,[],by simp⟩ ⟨by simp[CW,eP,eM],rfl,rfl⟩ ?_
  rintro⟨k,H⟩ ⟨hk,hI,N,hN⟩
  simp only at hk hI hN
  simp only[EV,EL,CW,Nat.reduceBEq]
  refine bI (fun hlt=>?_) (fun hge=>?_)
  · have hlt:k<l.length:=by simpa using hlt
    have i0:=A3 (sz:=4) hs' (k:=k) (by rw[gO];exact hlt)
    rw[sL]at i0
    rw[uk hlt]at hI
    obtain⟨x,hx⟩:∃x,x=l[k]:=⟨_,rfl⟩
    rw[←hx]at i0 hI
    have hal:∀e:List AV,vb true ⟨e,[],H⟩ [.int .i64 0,.int .i64 0,.int .i64 0,.int .i64 0]=.val (.gp H.length 0 0) ⟨e,[],H++[some (0,[.int .i64 0,.int .i64 0,.int .i64 0,.int .i64 0])]⟩:=fun e=>rfl
    have hst:∀e:List AV,(St.mk e [] (H++[some (0,[.int .i64 0,.int .i64 0,.int .i64 0,.int .i64 0])])).store (.gp H.length 0 0) [.int .i64 x.n,.int .i64 x.g,.int .i64 x.t,.int .i64 x.e]=some ⟨e,[],H++[some (0,x.c)]⟩:=fun e=>um (by simp) rfl
    simp only[EV,EL,EB,Nat.reduceBEq,i0,eu.c,if_true,Nat.reduceAdd,hal,hst,hB]
    refine ah.val (by simp only[EO]) (Sx x.n _) ?_
    cases b1:qe x.n 1 999999
    · simp only[EV,EL,Nat.reduceBEq,Bool.not_false,Bool.not_true,if_true,Bool.false_eq_true,if_false,tg]
      exact⟨rfl,by rw[km,hI];simp[eu.nG,b1],N++_,by rw[hN,List.append_assoc]⟩
    simp only[EV,EL,EB,Nat.reduceBEq,eu.c,hB,Bool.not_false,Bool.not_true,if_true,Bool.false_eq_true,if_false,Nat.reduceAdd]
    refine ah.val (by simp only[EO]) (Gh x.g 1 4 _) ?_
    cases b2:qe x.g 1 4
    · simp only[EV,EL,Nat.reduceBEq,Bool.not_false,Bool.not_true,if_true,Bool.false_eq_true,if_false,tg]
      exact⟨rfl,by rw[km,hI];simp[eu.nG,b2],N++_,by rw[hN,List.append_assoc]⟩
    simp only[EV,EL,EB,Nat.reduceBEq,eu.c,hB,Bool.not_false,Bool.not_true,if_true,Bool.false_eq_true,if_false,Nat.reduceAdd]
    refine ah.val (by simp only[EO]) (Gh x.t 1 4 _) ?_
    cases b3:qe x.t 1 4
    · simp only[EV,EL,Nat.reduceBEq,Bool.not_false,Bool.not_true,if_true,Bool.false_eq_true,if_false,tg]
      exact⟨rfl,by rw[km,hI];simp[eu.nG,b3],N++_,by rw[hN,List.append_assoc]⟩
    cases b4:(x.g == x.t)
    rotate_left
    · simp only[EV,EL,EB,Nat.reduceBEq,eu.c,hB,b4,Bool.not_false,Bool.not_true,if_true,Bool.false_eq_true,if_false,Nat.reduceAdd,tg]
      exact⟨rfl,by rw[km,hI];simp only[eu.nG,b4];simp,N++_,by rw[hN,List.append_assoc]⟩
    cases b5:decide (x.e<0)
    rotate_left
    · simp only[EV,EL,EB,Nat.reduceBEq,eu.c,hB,b4,b5,Bool.not_false,Bool.not_true,if_true,Bool.false_eq_true,if_false,Nat.reduceAdd,tg]
      exact⟨rfl,by rw[km,hI];simp only[eu.nG,b5];simp,N++_,by rw[hN,List.append_assoc]⟩
    have hgood:x.nG=true:=by simp only[eu.nG,b1,b2,b3,b4,b5];rfl
    rw[hgood,Bool.true_and]at hI
    have hcut:=fun(S:St)=>G6 S s 4 (gK l) .i64 (n:=k) hs' (by rw[gO];omega)
    simp only[EV,EL,EB,Nat.reduceBEq,eu.c,hB,hcut,CZ,b4,b5,Bool.not_false,Bool.not_true,if_true,Bool.false_eq_true,if_false,Nat.reduceAdd]
    have hcall:=CH (P:=Tryz.prog) (Γ:=Γ) aJ aK (fun hw=>PO hw) (Cw _ _ _) rfl
      (Ce (P:=Tryz.prog) (Γ:=Γ) aJ aK (sz:=4) (agg:=true) (fun hw=>FY hw) (s:=s.cut (k == (gK l).length)) (xs:=gK (l.take k)) (SH.N6 hs' (by rw[gO,gO,List.length_take];omega))
        (by rw[gO,List.length_take];omega) (fun y hy=>⟨⟨(Cp _ y hy).1,.inl rfl⟩,(Cp _ y hy).2⟩) (g:=Fn.Vh) (first:=[]) (caps:=[.gp H.length 0 0]) rfl (Lh x) (h:=H++[some (0,x.c)])
        (fun y hy=>by
          simp only[gK,List.mem_map]at hy
          obtain⟨o,_,rfl⟩:=hy
          exact Si x o _ (cw _ _)))
    refine ah.val (by simp only[EO]) hcall ?_
    rw[ET]
    cases b6:(l.take k).any x.same
    · simp only[EV,EL,Nat.reduceBEq]
      refine⟨(k+1,H++[some (0,x.c)]),⟨hlt,by rw[hI,b6];rfl,N++[some (0,x.c)],by simp only;rw[hN,List.append_assoc]⟩,by simp only;omega,⟨?_,rfl,rfl⟩⟩
      rw[wN (by omega)]
      simp[eP,eM]
    · simp only[EV,EL,Nat.reduceBEq,tg]
      exact⟨rfl,by rw[km,hI,b6];rfl,N++_,by rw[hN,List.append_assoc]⟩
  · have hge:k=l.length:=by simp at hge;omega
    simp only[EV,EL,L0,Nat.reduceBEq,tg]
    refine⟨rfl,?_,N,hN⟩
    rw[km,hI,hge,List.drop_length,iA,Bool.true_and]
    simp
    omega
def OF(x:au):eu:=⟨x.nonce,x.giver,x.taker,x.entity⟩
theorem D3(β:Bool)(l:List au):gK (l.map OF)=l.map (au.c β):=by simp[gK,OF,eu.c,au.c,Function.comp_def]
def jG(l:List au):Bool:=km (l.map OF)
theorem HY(β:Bool)(l:List au)(hl:l.length≤1048577)(h:AH):T Tryz.prog Γ Fn.OM [.vs β 4 false (l.map (au.c β))] h fun v h'=>v=.bool (jG l)∧h'=h:=by
  have:=UC (Γ:=Γ) (.v β false) (l.map OF) (fun e=>by cases e) (by simp;omega) h
  rw[D3 β]at this;exact this
theorem tj(β:Bool)(l:List au)(hl:l.length≤1048577)(h:AH):T Tryz.prog Γ Fn.OP [.vs β 4 false (l.map (au.c β))] h fun v h'=>v=.bool (jG l)∧h'=h:=by
  have:=TG (Γ:=Γ) (.v β false) (l.map OF) (fun e=>by cases e) (by simp;omega) h
  rw[D3 β]at this;exact this
theorem yF:∀(l m pre:List eu),iA pre (l++m)=true→iA pre l=true
  | [],m,pre,_=>by simp[iA]
  | x::l,m,pre,h=>by
    simp only[List.cons_append,iA,Bool.and_eq_true]at h ⊢
    exact⟨h.1,h.2.1,yF l m _ h.2.2⟩
theorem B1{l m:List au}(h:jG (l++m)=true):jG l=true:=by
  simp only[jG,km,List.map_append,Bool.and_eq_true,decide_eq_true_eq,List.length_append]at h ⊢
  exact⟨yF _ _ _ h.1,by omega⟩
theorem gu(β:Bool)(l:List au)(hl:l.length≤1048577)(h:AH):T Tryz.prog Γ Fn.Iw [.vs β 4 false (l.map (au.c β))] h (aS h [.c (.sl 4 (l.map au.cd))]):=
  pG aJ aK (fun hw=>RQ hw) (by omega) (by simp only[aU];omega) (fun x=>⟨rfl,rfl⟩) (fun x=>(au.bM false x).symm)
theorem qY(β:Bool)(l:List au)(hl:l.length≤1048577)(h:AH):T Tryz.prog Γ Fn.Og [.vs β 4 false (l.map (au.c β))] h (aS h [.c (.sl 4 (l.map au.cd))]):=by
  refine T.n7 ?_
  refine RG (aD aJ aK [] _ _ _ ?_)
  unfold JG
  obtain⟨w,H1,fw,eb,ow,nw,hfw,hlw,hmw⟩:=kR (bytes:=32) (dK h 4) (by simp) (by omega) (β:=β) (l:=l) (c:=au.c β) (fun x=>⟨rfl,rfl⟩) (fun x=>(au.bM false x).symm) (by simp only[List.length_nil,aU];omega)
  simp only[EZ,ag,Nat.reduceAdd,Nat.reduceBEq,JW,EA,eb]
  have ew:bQ h H1:=(bQ.app h [some (0,[])]).vF hlw hfw (by simp)
  obtain⟨N,rfl⟩:=ew.out
  refine⟨ow.c7,N,fw,rfl,ow,nw,fun c hc=>?_⟩
  rcases hmw c hc with g|g
  · simp at g;omega
  · simp at g;omega
def gr(l:List au)(x:au):List au×Bool:=if jG (l++[x])=true then (l++[x],true)else (l,false)
theorem Bt(l:List au)(x:au):(gr l x).1.length≤l.length+1:=by unfold gr;split<;>simp
theorem Kz(β β':Bool)(l:List au)(hl:l.length≤1048576)(x:au)(h:AH):T Tryz.prog Γ Fn.Tv [.vs β 4 false (l.map (au.c β)),.agg (x.c β')] h (aS h [.c (.sl 4 ((gr l x).1.map au.cd)),.c (.b (gr l x).2)]):=by
  have fin:∀(w' src:AV) (H1:AH) (fw fs:List Nat),bN H1 w' (.sl 4 (l.map au.cd)) fw→fw.Nodup→(∀c∈fw,h.length≤c)→bQ h H1→bN H1 src (.sl 4 [x.cd]) fs→
      ∃v' H' fp',(∀e L,nq ⟨e,L,H1⟩ 4 32 w' (dp ⟨e,L,H1⟩ 4 false src) (lenOf src) (lenOf w')=.val v' ⟨e,L,H'⟩)∧
        bN H' v' (.sl 4 ((l++[x]).map au.cd)) fp'∧fp'.Nodup∧(∀c∈fp',h.length≤c)∧bQ h H':=by
    intro w' src H1 fw fs ow nw bw ew os
    obtain⟨v',H',fp',ea,o',nd',hf',hl',hm'⟩:=Bu (bytes:=32) ow nw (by omega) os rfl (by simp only[List.length_map,List.length_cons,List.length_nil,aU];omega)
    refine⟨v',H',fp',ea,by rw[List.map_append];exact o',nd',fun c hc=>?_,ew.vF hl' hf' bw⟩
    have:=ew.len
    rcases hm' c hc with g|g
    · exact bw c g
    · omega
  have row:∀(H:AH),aO H [.int .i64 x.nonce,.int .i64 x.giver,.int .i64 x.taker,.int .i64 x.entity] x.cd []:=fun H=>.i (.i (.i (.i .nil)))
  refine T.ua rfl ?_
  refine QF (aD aJ aK [] _ _ _ ?_)
  unfold MU
  simp only[EZ,ag,Nat.reduceAdd,Nat.reduceBEq,qd,jd,aF,ER,EA,au.c]
  refine⟨?_,?_⟩
  · refine ah.ref (by simp only[EO]) (gu β l (by omega) _) ?_
    rintro w H1 fr
    replace fr:aS h _ _ _:=fr
    obtain⟨fw,ow,nw,bw,ew⟩:=fr.c1
    obtain⟨v',H',fp',ea,o',nd',b',e'⟩:=fin w _ _ fw _ ow.grow nw bw (ew.trans (bQ.app _ _)) (ky (sz:=4) H1 rfl (row H1))
    obtain⟨c1,c2,c3,c4⟩:=o'.cell
    simp only[EZ,ag,Nat.reduceAdd,Nat.reduceBEq,qd,jd,aF,ER,EA,au.c,ea]
    refine⟨(by first|exact ew.mem _ _ _|exact cW (ew.mem _ _ _)),?_⟩
    refine ah.dT (by simp only[EO,c4]) (aI (bN.dT (au.bM true) o') bm) (fun h=>HY true (l++[x]) (by simp;omega) h) (.bool _) ?_
    cases cb:jG (l++[x])
    · simp only[EZ,ag,Nat.reduceAdd,Nat.reduceBEq,qd,jd,aF,ER,EA,au.c]
      refine ah.ref (by simp only[EO]) (gu β l (by omega) _) ?_
      rintro w2 H2 fr
      replace fr:aS H' _ _ _:=fr
      obtain⟨f2,o2,n2,b2,e2⟩:=fr.c1
      obtain⟨c1,c2,c3,c4⟩:=o2.cell
      simp only[EZ,ag,Nat.reduceAdd,Nat.reduceBEq,qd,jd,aF,ER,EA,au.c,c1,c2,c3,c4]
      obtain⟨N,rfl⟩:=(e'.trans e2).out
      have es:gr l x=(l,false):=by simp[gr,cb]
      refine⟨by simp only[List.all_cons,List.all_nil,c4];rfl,w2,N,f2,by rw[es,CD.fc],rfl,by rw[es];exact o2,n2,fun c hc=>by have:=b2 c hc;have:=e'.len;omega⟩
    have es:gr l x=(l++[x],true):=by simp[gr,cb]
    simp only[EZ,ag,Nat.reduceAdd,Nat.reduceBEq,qd,jd,aF,ER,EA,au.c,c1,c2,c3,c4]
    obtain⟨N,rfl⟩:=e'.out
    refine⟨by simp only[List.all_cons,List.all_nil,c4];rfl,v',N,fp',by rw[es,CD.fc],rfl,by rw[es];exact o',nd',b'⟩
  · refine ah.ref (by simp only[EO]) (gu β l (by omega) _) ?_
    rintro w H1 fr
    replace fr:aS (h++_) _ _ _:=fr
    obtain⟨fw,ow,nw,bw,ew⟩:=fr.c1
    obtain⟨v',H',fp',ea,o',nd',b',e'⟩:=fin w _ _ fw _ ow nw (fun c hc=>by have:=bw c hc;simp at this;omega) ((bQ.app h _).trans ew) ((ky (sz:=4) h rfl (row h)).ext ew)
    obtain⟨c1,c2,c3,c4⟩:=o'.cell
    simp only[EZ,ag,Nat.reduceAdd,Nat.reduceBEq,qd,jd,aF,ER,EA,au.c,ea]
    refine⟨(by first|exact ew.mem _ _ _|exact cW (ew.mem _ _ _)),?_⟩
    refine ah.dT (by simp only[EO,c4]) (aI (bN.dT (au.bM true) o') bm) (fun h=>HY true (l++[x]) (by simp;omega) h) (.bool _) ?_
    cases cb:jG (l++[x])
    · simp only[EZ,ag,Nat.reduceAdd,Nat.reduceBEq,qd,jd,aF,ER,EA,au.c]
      refine ah.ref (by simp only[EO]) (gu β l (by omega) _) ?_
      rintro w2 H2 fr
      replace fr:aS H' _ _ _:=fr
      obtain⟨f2,o2,n2,b2,e2⟩:=fr.c1
      obtain⟨c1,c2,c3,c4⟩:=o2.cell
      simp only[EZ,ag,Nat.reduceAdd,Nat.reduceBEq,qd,jd,aF,ER,EA,au.c,c1,c2,c3,c4]
      obtain⟨N,rfl⟩:=(e'.trans e2).out
      have es:gr l x=(l,false):=by simp[gr,cb]
      refine⟨by simp only[List.all_cons,List.all_nil,c4];rfl,w2,N,f2,by rw[es,CD.fc],rfl,by rw[es];exact o2,n2,fun c hc=>by have:=b2 c hc;have:=e'.len;omega⟩
    have es:gr l x=(l++[x],true):=by simp[gr,cb]
    simp only[EZ,ag,Nat.reduceAdd,Nat.reduceBEq,qd,jd,aF,ER,EA,au.c,c1,c2,c3,c4]
    obtain⟨N,rfl⟩:=e'.out
    refine⟨by simp only[List.all_cons,List.all_nil,c4];rfl,v',N,fp',by rw[es,CD.fc],rfl,by rw[es];exact o',nd',b'⟩
theorem Ih(β β':Bool)(l:List au)(hl:l.length≤1048576)(x:au)(h:AH):T Tryz.prog Γ Fn.OL [.vs β 4 false (l.map (au.c β)),.agg (x.c β')] h (aS h [.c (.sl 4 ((gr l x).1.map au.cd)),.c (.b (gr l x).2)]):=by
  have fin:∀(w' src:AV) (H1:AH) (fw fs:List Nat),bN H1 w' (.sl 4 (l.map au.cd)) fw→fw.Nodup→(∀c∈fw,h.length≤c)→bQ h H1→bN H1 src (.sl 4 [x.cd]) fs→
      ∃v' H' fp',(∀e L,nq ⟨e,L,H1⟩ 4 32 w' (dp ⟨e,L,H1⟩ 4 false src) (lenOf src) (lenOf w')=.val v' ⟨e,L,H'⟩)∧
        bN H' v' (.sl 4 ((l++[x]).map au.cd)) fp'∧fp'.Nodup∧(∀c∈fp',h.length≤c)∧bQ h H':=by
    intro w' src H1 fw fs ow nw bw ew os
    obtain⟨v',H',fp',ea,o',nd',hf',hl',hm'⟩:=Bu (bytes:=32) ow nw (by omega) os rfl (by simp only[List.length_map,List.length_cons,List.length_nil,aU];omega)
    refine⟨v',H',fp',ea,by rw[List.map_append];exact o',nd',fun c hc=>?_,ew.vF hl' hf' bw⟩
    have:=ew.len
    rcases hm' c hc with g|g
    · exact bw c g
    · omega
  have row:∀(H:AH),aO H [.int .i64 x.nonce,.int .i64 x.giver,.int .i64 x.taker,.int .i64 x.entity] x.cd []:=fun H=>.i (.i (.i (.i .nil)))
  refine T.ua rfl ?_
  refine RI (aD aJ aK [] _ _ _ ?_)
  unfold NF
  simp only[EZ,ag,Nat.reduceAdd,Nat.reduceBEq,j6,fO,aF,ER,EA,au.c]
  refine⟨?_,?_⟩
  · refine ah.ref (by simp only[EO]) (qY β l (by omega) _) ?_
    rintro w H1 fr
    replace fr:aS h _ _ _:=fr
    obtain⟨fw,ow,nw,bw,ew⟩:=fr.c1
    obtain⟨v',H',fp',ea,o',nd',b',e'⟩:=fin w _ _ fw _ ow.grow nw bw (ew.trans (bQ.app _ _)) (ky (sz:=4) H1 rfl (row H1))
    obtain⟨c1,c2,c3,c4⟩:=o'.cell
    simp only[EZ,ag,Nat.reduceAdd,Nat.reduceBEq,j6,fO,aF,ER,EA,au.c,ea]
    refine⟨(by first|exact ew.mem _ _ _|exact cW (ew.mem _ _ _)),?_⟩
    refine ah.val (by simp only[EO]) (tj β l (by omega) _) ?_
    cases ca:jG l
    · have cb:jG (l++[x])=false:=by
        cases g:jG (l++[x])
        · rfl
        · rw[B1 g]at ca;cases ca
      simp only[EZ,ag,Nat.reduceAdd,Nat.reduceBEq,j6,fO,aF,ER,EA,au.c]
      refine ah.ref (by simp only[EO]) (qY β l (by omega) _) ?_
      rintro w2 H2 fr
      replace fr:aS H' _ _ _:=fr
      obtain⟨f2,o2,n2,b2,e2⟩:=fr.c1
      obtain⟨c1,c2,c3,c4⟩:=o2.cell
      simp only[EZ,ag,Nat.reduceAdd,Nat.reduceBEq,j6,fO,aF,ER,EA,au.c,c1,c2,c3,c4]
      obtain⟨N,rfl⟩:=(e'.trans e2).out
      have es:gr l x=(l,false):=by simp[gr,cb]
      refine⟨by simp only[List.all_cons,List.all_nil,c4];rfl,w2,N,f2,by rw[es,CD.fc],rfl,by rw[es];exact o2,n2,fun c hc=>by have:=b2 c hc;have:=e'.len;omega⟩
    simp only[EZ,ag,Nat.reduceAdd,Nat.reduceBEq,j6,fO,aF,ER,EA,au.c]
    refine ah.dT (by simp only[EO,c4]) (aI (bN.dT (au.bM true) o') bm) (fun h=>tj true (l++[x]) (by simp;omega) h) (.bool _) ?_
    cases cb:jG (l++[x])
    · simp only[EZ,ag,Nat.reduceAdd,Nat.reduceBEq,j6,fO,aF,ER,EA,au.c]
      refine ah.ref (by simp only[EO]) (qY β l (by omega) _) ?_
      rintro w2 H2 fr
      replace fr:aS H' _ _ _:=fr
      obtain⟨f2,o2,n2,b2,e2⟩:=fr.c1
      obtain⟨c1,c2,c3,c4⟩:=o2.cell
      simp only[EZ,ag,Nat.reduceAdd,Nat.reduceBEq,j6,fO,aF,ER,EA,au.c,c1,c2,c3,c4]
      obtain⟨N,rfl⟩:=(e'.trans e2).out
      have es:gr l x=(l,false):=by simp[gr,cb]
      refine⟨by simp only[List.all_cons,List.all_nil,c4];rfl,w2,N,f2,by rw[es,CD.fc],rfl,by rw[es];exact o2,n2,fun c hc=>by have:=b2 c hc;have:=e'.len;omega⟩
    have es:gr l x=(l++[x],true):=by simp[gr,cb]
    simp only[EZ,ag,Nat.reduceAdd,Nat.reduceBEq,j6,fO,aF,ER,EA,au.c,c1,c2,c3,c4]
    obtain⟨N,rfl⟩:=e'.out
    refine⟨by simp only[List.all_cons,List.all_nil,c4];rfl,v',N,fp',by rw[es,CD.fc],rfl,by rw[es];exact o',nd',b'⟩
  · refine ah.ref (by simp only[EO]) (qY β l (by omega) _) ?_
    rintro w H1 fr
    replace fr:aS (h++_) _ _ _:=fr
    obtain⟨fw,ow,nw,bw,ew⟩:=fr.c1
    obtain⟨v',H',fp',ea,o',nd',b',e'⟩:=fin w _ _ fw _ ow nw (fun c hc=>by have:=bw c hc;simp at this;omega) ((bQ.app h _).trans ew) ((ky (sz:=4) h rfl (row h)).ext ew)
    obtain⟨c1,c2,c3,c4⟩:=o'.cell
    simp only[EZ,ag,Nat.reduceAdd,Nat.reduceBEq,j6,fO,aF,ER,EA,au.c,ea]
    refine⟨(by first|exact ew.mem _ _ _|exact cW (ew.mem _ _ _)),?_⟩
    refine ah.val (by simp only[EO]) (tj β l (by omega) _) ?_
    cases ca:jG l
    · have cb:jG (l++[x])=false:=by
        cases g:jG (l++[x])
        · rfl
        · rw[B1 g]at ca;cases ca
      simp only[EZ,ag,Nat.reduceAdd,Nat.reduceBEq,j6,fO,aF,ER,EA,au.c]
      refine ah.ref (by simp only[EO]) (qY β l (by omega) _) ?_
      rintro w2 H2 fr
      replace fr:aS H' _ _ _:=fr
      obtain⟨f2,o2,n2,b2,e2⟩:=fr.c1
      obtain⟨c1,c2,c3,c4⟩:=o2.cell
      simp only[EZ,ag,Nat.reduceAdd,Nat.reduceBEq,j6,fO,aF,ER,EA,au.c,c1,c2,c3,c4]
      obtain⟨N,rfl⟩:=(e'.trans e2).out
      have es:gr l x=(l,false):=by simp[gr,cb]
      refine⟨by simp only[List.all_cons,List.all_nil,c4];rfl,w2,N,f2,by rw[es,CD.fc],rfl,by rw[es];exact o2,n2,fun c hc=>by have:=b2 c hc;have:=e'.len;omega⟩
    simp only[EZ,ag,Nat.reduceAdd,Nat.reduceBEq,j6,fO,aF,ER,EA,au.c]
    refine ah.dT (by simp only[EO,c4]) (aI (bN.dT (au.bM true) o') bm) (fun h=>tj true (l++[x]) (by simp;omega) h) (.bool _) ?_
    cases cb:jG (l++[x])
    · simp only[EZ,ag,Nat.reduceAdd,Nat.reduceBEq,j6,fO,aF,ER,EA,au.c]
      refine ah.ref (by simp only[EO]) (qY β l (by omega) _) ?_
      rintro w2 H2 fr
      replace fr:aS H' _ _ _:=fr
      obtain⟨f2,o2,n2,b2,e2⟩:=fr.c1
      obtain⟨c1,c2,c3,c4⟩:=o2.cell
      simp only[EZ,ag,Nat.reduceAdd,Nat.reduceBEq,j6,fO,aF,ER,EA,au.c,c1,c2,c3,c4]
      obtain⟨N,rfl⟩:=(e'.trans e2).out
      have es:gr l x=(l,false):=by simp[gr,cb]
      refine⟨by simp only[List.all_cons,List.all_nil,c4];rfl,w2,N,f2,by rw[es,CD.fc],rfl,by rw[es];exact o2,n2,fun c hc=>by have:=b2 c hc;have:=e'.len;omega⟩
    have es:gr l x=(l++[x],true):=by simp[gr,cb]
    simp only[EZ,ag,Nat.reduceAdd,Nat.reduceBEq,j6,fO,aF,ER,EA,au.c,c1,c2,c3,c4]
    obtain⟨N,rfl⟩:=e'.out
    refine⟨by simp only[List.all_cons,List.all_nil,c4];rfl,v',N,fp',by rw[es,CD.fc],rfl,by rw[es];exact o',nd',b'⟩
end Go.Proofs.YtccjhmhkfnnmaaaGreat
namespace Go.Proofs.YtccjhmhkfnnmaaaGreat
open Go.AM
variable {Γ:cj}
theorem sE(l:List au):(l.map au.cd).flatten.all CD.flat=true:=by
  rw[List.all_flatten,List.all_eq_true];intro y hy;obtain⟨x,_,rfl⟩:=List.mem_map.1 hy;rfl
theorem rB(l:List au):(l.map (au.c false)).flatten=(l.map au.cd).flatten.map (CD.av false):=qG (fun x=>(au.bM false x).symm) l
theorem ES(l:List au):((l.map (au.c false)).flatten).all bo=true:=rO (fun x hx=>by obtain⟨y,_,rfl⟩:=List.mem_map.1 hx;rfl)
theorem C2(l:List au)(hl:l.length≤1048577){k:Nat}(hk:k<l.length)(H:AH){a:AV}{fp:List Nat}(o:bN H a (.sl 4 (l.map au.cd)) fp)(nd:fp.Nodup):
    T Tryz.prog Γ Fn.Vx [a,.int .i64 k,.int .i64 ((k+1:Nat):Int)] H fun v h'=>(h'.length=H.length∧(∀c,c∉fp→h'[c]? = H[c]?)∧bN h' v (.sl 4 ((l.eraseIdx k).map au.cd)) fp):=by
  obtain⟨ac1,ac2,ac3,ac4⟩:=o.cell
  rcases o.jW with⟨rfl,e,rfl⟩|⟨b,g,cap,ex,az,tail,fp',rfl,rfl,hg,hsz,ht,hc,hown⟩
  · have:l=[]:=by simpa using e
    subst this;simp at hk
  have hfp':fp'=[]:=oH (sE l) hown
  subst hfp'
  have has:az=(l.map (au.c false)).flatten:=(vy (sE l) hown).trans (rB l).symm
  subst has
  simp only[List.length_map]at hc ac1 ac2 ac3 ac4 ⊢
  have La:rE false (.gs b g 0 l.length cap 4 ex)=some (.int .i64 l.length):=rfl
  have q3:=fun S:St=>Jc S (b:=b) (g:=g) (len:=l.length) (cap:=cap) (sz:=4) (ex:=ex) (l:=k) (h:=k+1) (m:=l.length) (by omega) (by omega) hc.1
  have qt:=fun S:St=>Eb S (b:=b) (g:=g) (len:=l.length) (cap:=cap) (sz:=4) (ex:=ex) (i:=k) (by omega)
  have qf:=fun S:St=>zo S (b:=b) (g:=g) (len:=l.length) (cap:=cap) (sz:=4) (ex:=ex) (i:=k+1) (by omega) hc.1
  have qa:=fun(e:List AV) (L:List (List AV))=>IU (c:=au.c false) (sz:=4) (fun x=>rfl) l hk tail (bytes:=32) (ex:=ex) hg hc.1 (ES l) (by omega) (by simp only[aU];omega) e L
  have hbl:b<H.length:=c5 hg
  generalize hm:l.take k++(l.drop (k+1)++l.drop (l.length-1))=m at qa
  have hml:m.length=l.length:=by rw[←hm];simp;omega
  have hmt:m.take (l.length-1)=l.eraseIdx k:=by
    rw[←hm,←List.append_assoc,List.eraseIdx_eq_take_drop_succ,List.take_left' (by simp;omega)]
  generalize hH2:H.set b (some (g,(m.map (au.c false)).flatten++tail))=H2 at qa
  have hg2:bJ H2 b=some (g,(m.map (au.c false)).flatten++tail):=by rw[←hH2];simp[bJ,hbl]
  have La2:rE false (.gs b g 0 (l.length-1) cap 4 ex)=some (.int .i64 ((l.length-1:Nat):Int)):=rfl
  have qb:=fun S:St=>CE S (b:=b) (g:=g) (len:=l.length-1) (cap:=cap) (sz:=4) (ex:=ex) (l:=l.length-1) (h:=l.length) (by omega) hc.1
  have hcl:∀(e:List AV) (L:List (List AV)),vT ⟨e,L,H2⟩ 4 [.int .i64 0,.int .i64 0,.int .i64 0,.int .i64 0] (.gs b g ((l.length-1)*4) (l.length-(l.length-1)) (cap-(l.length-1)) 4 ex)=some ⟨e,L,H2.set b (some (g,((m.take (l.length-1)).map (au.c false)).flatten++((List.replicate (l.length-(l.length-1)) (au.c false (au.mk 0 0 0 0))).flatten++tail)))⟩:=fun e L=>by
    have:=uJ (c:=au.c false) (sz:=4) (fun x=>rfl) (show l.length-1≤m.length by omega) (au.mk 0 0 0 0) tail rfl hg2 e L
    rw[hml]at this
    simp only[vT,if_true]
    rw[if_neg (by omega)];exact this
  have he:((k:Int) == ((k+1:Nat):Int))=false:=beq_eq_false_iff_ne.2 (by omega)
  refine S0 (aD aJ aK [] _ _ _ ?_)
  unfold Ko
  simp only[EZ,ag,Nat.reduceAdd,Nat.reduceBEq,J7,FT,aF,ER,La,N0,pJ,tX,Kw,BV,q3,qt,qf,qa,he,La2,qb,hcl,AR.Fs]
  have hbl2:b<H2.length:=c5 hg2
  rw[hmt]
  have hel:(l.eraseIdx k).length=l.length-1:=by rw[List.length_eraseIdx,if_pos hk]
  refine⟨rfl,by rw[←hH2];simp,fun c hcn=>?_,?_⟩
  · have hcb:c≠b:=fun e=>hcn (by simp[e])
    rw[List.getElem?_set_ne (Ne.symm hcb),←hH2,List.getElem?_set_ne (Ne.symm hcb)]
  · have hrl:(List.replicate (l.length-(l.length-1)) (au.c false (au.mk 0 0 0 0))).flatten.length=(l.length-(l.length-1))*4:=by
      have:=vu (xs:=List.replicate (l.length-(l.length-1)) (au.c false (au.mk 0 0 0 0))) (sz:=4) (fun y hy=>by rw[(List.mem_replicate.1 hy).2];rfl)
      simpa using this
    have:=bN.sl_mk (h:=H2.set b (some (g,((l.eraseIdx k).map (au.c false)).flatten++((List.replicate (l.length-(l.length-1)) (au.c false (au.mk 0 0 0 0))).flatten++tail)))) (b:=b) (g:=g) (cap:=cap) (sz:=4) (ex:=ex) («as»:=((l.eraseIdx k).map (au.c false)).flatten) (tail:=(List.replicate (l.length-(l.length-1)) (au.c false (au.mk 0 0 0 0))).flatten++tail) (xs:=(l.eraseIdx k).map au.cd) (fp:=[])
      (by simp[bJ,hbl2]) (fun y hy=>by obtain⟨x,_,rfl⟩:=List.mem_map.1 hy;rfl) (fun x hx=>by
        rcases List.mem_append.1 hx with hx|hx
        · obtain⟨y,hy,hxy⟩:=List.mem_flatten.1 hx
          rw[(List.mem_replicate.1 hy).2]at hxy
          simp[au.c]at hxy
          rw[hxy];exact .i _ _
        · exact ht x hx) ⟨by rw[List.length_map,hel];omega,by rw[List.length_map,hel,List.length_append,hrl];have:=hc.2;omega⟩ (by rw[rB];exact jA false (sE _))
    rw[List.length_map,hel]at this
    exact this
end Go.Proofs.YtccjhmhkfnnmaaaGreat
