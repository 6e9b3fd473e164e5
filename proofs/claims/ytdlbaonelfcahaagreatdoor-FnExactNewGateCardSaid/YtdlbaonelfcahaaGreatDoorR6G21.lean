import Derived.Test.YtdlbaonelfcahaaGreatDoorR6G18
import Derived.Test.YtdlbaonelfcahaaGreatDoorR9M
import Derived.Test.YtdlbaonelfcahaaGreatDoorR9H
import Derived.Test.YtdlbaonelfcahaaGreatDoorAmG9
import Derived.Test.YtdlbaonelfcahaaGreatDoorAmG10
set_option linter.unusedVariables false
set_option linter.unusedSimpArgs false
namespace Go.Proofs.YtdlbaonelfcahaaGreatDoor
open Go.AM
variable {Γ:bG}
theorem c12:dO Tryz.prog Fn.Wy:=⟨Tryz.f62,aG Tryz.f62,Tryz.func62,by kernel_rfl,by kernel_rfl⟩
theorem TA(hΓ:ik Γ)(h:AH):T Tryz.prog Γ Fn.Wy [] h fun v h'=>v=.str (tb dH)∧h'=h:=by
  refine⟨c12,fun ρ w cargs r gg ra=>?_⟩
  obtain rfl:cargs=[]:=List.length_eq_zero_iff.1 ra.1.symm
  obtain⟨m,hm⟩:=Gr hΓ gg r
  refine(lS m w hm).mono ?_
  rintro e w' ⟨rfl,hb⟩
  exact⟨_,_,ρ,h,rfl,.str _ _,r.below hb,.below hb,rfl,rfl⟩
set_option maxRecDepth 100000 in
theorem PR(h:AH):T Tryz.prog Γ Fn.Vm [] h fun v h'=>v=.str (tb dH)∧h'=h:=by
  show T Tryz.prog Γ Fn.Vm [] h fun v h'=>v=.str ⟨dH.toArray⟩∧h'=h
  refine N6 (au aF mixed [] _ _ _ ?_)
  unfold G4
  simp only[EZ,ah,Nat.reduceAdd,Nat.reduceBEq,F8]
  first|exact⟨rfl,rfl⟩|exact rfl
theorem R5(h:AH):T Tryz.prog Γ Fn.Ou [] h (bc h [.c (.sl 2 (dP.map aB.cd))]):=by
  refine T.iI ?_
  refine TL (au aF mixed [] _ _ _ ?_)
  unfold IH
  simp only[EZ,ah,Nat.reduceAdd,Nat.reduceBEq,yT]
  refine aq.val (by simp only[EO]) (PR _) ?_
  simp only[EZ,ah,Nat.reduceAdd,Nat.reduceBEq,yT]
  refine aq.ref (by simp only[EO]) (Sf _) ?_
  rintro v H fr
  replace fr:bc h _ _ _:=fr
  obtain⟨a,fp,rfl,o,nd,hb,ex⟩:=fr.c2 rfl
  simp only[EZ,ah,Nat.reduceAdd,Nat.reduceBEq,yT,ER]
  obtain⟨N,rfl⟩:=ex.out
  exact⟨o.cR,N,fp,rfl,o,nd,hb⟩
theorem Lz(hΓ:ik Γ)(h:AH):T Tryz.prog Γ Fn.OY [] h (bc h [.c (.sl 2 (dP.map aB.cd))]):=by
  refine T.iI ?_
  refine Pr (au aF mixed [] _ _ _ ?_)
  unfold ES
  simp only[EZ,ah,Nat.reduceAdd,Nat.reduceBEq,zM]
  refine aq.val (by simp only[EO]) (TA hΓ _) ?_
  simp only[EZ,ah,Nat.reduceAdd,Nat.reduceBEq,zM]
  refine aq.ref (by simp only[EO]) (OR hΓ (fun h=>Mv hΓ h) _) ?_
  rintro v H fr
  replace fr:bc h _ _ _:=fr
  obtain⟨a,fp,rfl,o,nd,hb,ex⟩:=fr.c2 rfl
  simp only[EZ,ah,Nat.reduceAdd,Nat.reduceBEq,zM,ER]
  obtain⟨N,rfl⟩:=ex.out
  exact⟨o.cR,N,fp,rfl,o,nd,hb⟩
theorem Ri(h:AH):T Tryz.prog Γ Fn.Ou [] h fun v h'=>v=.vs false 2 false (dP.map (aB.c false))∧h'=h:=by
  have:=(R5 (Γ:=Γ) h).frozen
  simpa only[List.map_cons,List.map_nil,oW,oq,D5,Dw,CD.eG,CD.dD,CD.hY,CD.gQ,List.map_map,Function.comp_def,aB.cr]using this
theorem PL(hΓ:ik Γ)(h:AH):T Tryz.prog Γ Fn.OY [] h fun v h'=>v=.vs false 2 false (dP.map (aB.c false))∧h'=h:=by
  have:=(Lz hΓ h).frozen
  simpa only[List.map_cons,List.map_nil,oW,oq,D5,Dw,CD.eG,CD.dD,CD.hY,CD.gQ,List.map_map,Function.comp_def,aB.cr]using this
end Go.Proofs.YtdlbaonelfcahaaGreatDoor
namespace Go.Proofs.YtdlbaonelfcahaaGreatDoor
open Go.AM
variable {Γ:bG}
theorem jC(β:Bool)(l:List ae)(hl:l.length≤1048576)(h:AH):T Tryz.prog Γ Fn.K8 [.vs β 2 false (l.map (ae.c β))] h (bc h [.c (.sl 2 (l.map ae.cd))]):=
  lU aF mixed (fun hw=>TZ hw) (by omega) (by simp only[aX];omega) (fun x=>⟨rfl,rfl⟩) (fun x=>(ae.cr false x).symm)
theorem QZ(β:Bool)(x:aA)(hx:x.ok 1048576)(h:AH):T Tryz.prog Γ Fn.VH [.agg (x.c β)] h (bc h [.a x.cd]):=by
  refine T.ez ?_
  refine Mn (au aF mixed [] _ _ _ ?_)
  unfold EN
  simp only[EZ,ah,Nat.reduceAdd,Nat.reduceBEq,CB,bo,ER,aA.c]
  refine aq.ref (by simp only[EO]) (jC β x.args hx.2 _) ?_
  rintro w H1 fr
  replace fr:bc h _ _ _:=fr
  obtain⟨fw,ow,nw,bw,ew⟩:=fr.c1
  obtain⟨c1,c2,c3,c4⟩:=ow.cell
  simp only[EZ,ah,Nat.reduceAdd,Nat.reduceBEq,CB,bo,ER,aA.c,c1,c2,c3]
  obtain⟨N,rfl⟩:=ew.out
  refine⟨by simp[cR,bX,c4,c2,c3,j8,jZ],_,N,fw,rfl,rfl,?_,nw,bw⟩
  have:fw=fw++[]:=by simp
  rw[this]
  exact .i (.s (.o ow (.i (.i (.i (.i .nil))))))
theorem Bi(β:Bool)(l:List aA)(hl:l.length≤1048576)(ho':∀x∈l,x.ok 1048576)(h:AH):T Tryz.prog Γ Fn.Li [.vs β 7 false (l.map (aA.c β))] h (bc h [.c (.sl 7 (l.map aA.cd))]):=by
  have L0:=bH β 7 false l (aA.c β)
  generalize e0:AV.vs β 7 false (l.map (aA.c β))=a0 at *
  refine T.iI ?_
  refine Tb (au aF mixed [] _ _ _ ?_)
  unfold GZ
  simp only[EZ,ah,Nat.reduceAdd,Nat.reduceBEq,qT,EA,L0]
  refine bD aF mixed [] (fun x:Nat×AV×AH×List Nat×List (List AV)=>x.1≤l.length∧bO x.2.2.1 x.2.1 (.sl 7 ((l.take x.1).map aA.cd)) x.2.2.2.1∧x.2.2.2.1.Nodup∧(∀c∈x.2.2.2.1,h.length≤c)∧cc h x.2.2.1) (fun x=>l.length-x.1)
    (fun x=>tZ x.2.1 a0 (.int .i64 l.length) (.int .i64 x.1) x.2.2.2.2 x.2.2.1) (0,.gs h.length 0 0 0 0 7 true,h++[some (0,[])],[h.length],[]) ⟨by simp,dQ h 7,by simp,by simp,cc.app _ _⟩ ⟨by simp[tZ,cj,ck],rfl,rfl⟩ ?_
  rintro⟨k,v,H,fp,L⟩ ⟨hk,ho,nd,hfp,hN⟩
  simp only at hk ho nd hfp hN
  simp only[EZ,ah,Nat.reduceAdd,Nat.reduceBEq,qT,tZ]
  refine ba (fun hlt=>?_) (fun hge=>?_)
  rotate_left
  · have hge:k=l.length:=by simp at hge;omega
    subst hge
    simp only[EZ,ah,Nat.reduceAdd,Nat.reduceBEq,qT]
    rw[List.take_length]at ho
    obtain⟨N,rfl⟩:=hN.out
    exact⟨ho.cR,N,fp,rfl,ho,nd,hfp⟩
  have hlt:k<l.length:=by simpa using hlt
  have i0:=bW (β:=β) (sz:=7) (ex:=false) (ce:=aA.c β) hlt
  rw[e0]at i0
  have hox:=ho' _ (List.getElem_mem hlt)
  simp only[EZ,ah,Nat.reduceAdd,Nat.reduceBEq,qT,i0,aA.c]
  refine aq.ref (by simp only[EO]) (QZ β l[k] hox _) ?_
  rintro _ H1 fr
  replace fr:bc H _ _ _:=fr
  obtain⟨aw,fw,rfl,ow,nw,bw,ew⟩:=fr.a1
  have hdis:(fp++fw).Nodup:=bR nd nw (fun c hc=>ho.lt c hc) bw
  replace ho:=ho.ext ew
  have hx1:=hN.trans ew
  have oo:=ow
  simp only[aA.cd,cT,cO,dU,dT,dM]at oo
  obtain⟨_,_,_,_,rfl,_,⟨rfl,rfl⟩,⟨_,_,_,_,rfl,_,⟨rfl,rfl⟩,⟨a2,_,g2,_,rfl,_,u2,⟨_,_,_,_,rfl,_,⟨rfl,rfl⟩,⟨_,_,_,_,rfl,_,⟨rfl,rfl⟩,⟨_,_,_,_,rfl,_,⟨rfl,rfl⟩,⟨_,_,_,_,rfl,_,⟨rfl,rfl⟩,⟨rfl,_⟩⟩⟩⟩⟩⟩⟩⟩:=oo
  obtain⟨c1,c2,c3,c4⟩:=u2.cell
  obtain⟨v',H',fp',ea,o',nd',hf',hl',hm'⟩:=dz (bytes:=80) ho hdis (by omega) rfl ow (by simp only[List.length_map,List.length_take,aX];omega)
  simp only[EZ,ah,Nat.reduceAdd,Nat.reduceBEq,qT,EA,c1,c2,c3,ea]
  refine⟨(k+1,v',H',fp',_),⟨hlt,by simp only;rw[List.take_succ_eq_append_getElem hlt,List.map_append];exact o',nd',fun c hc=>?_,hx1.vI hl' hf' hfp⟩,by simp only;omega,⟨by rw[wN (by omega)];simp[tZ,cj,ck],rfl,rfl⟩⟩
  have:=hN.len;have:=hx1.len
  rcases hm' c hc with g|g|g
  · exact hfp c g
  · have:=bw c g;omega
  · omega
theorem Cn(β:Bool)(l:List aA)(hl:l.length≤1048576)(ho':∀x∈l,x.ok 1048576)(h:AH):T Tryz.prog Γ Fn.OU [.vs β 7 false (l.map (aA.c β))] h (bc h [.c (.sl 7 (l.map aA.cd))]):=by
  have L0:=bH β 7 false l (aA.c β)
  generalize e0:AV.vs β 7 false (l.map (aA.c β))=a0 at *
  refine T.iI ?_
  refine Ta (au aF mixed [] _ _ _ ?_)
  unfold Hp
  simp only[EZ,ah,Nat.reduceAdd,Nat.reduceBEq,wF,EA,L0]
  refine bD aF mixed [] (fun x:Nat×AV×AH×List Nat×List (List AV)=>x.1≤l.length∧bO x.2.2.1 x.2.1 (.sl 7 ((l.take x.1).map aA.cd)) x.2.2.2.1∧x.2.2.2.1.Nodup∧(∀c∈x.2.2.2.1,h.length≤c)∧cc h x.2.2.1) (fun x=>l.length-x.1)
    (fun x=>uM a0 x.2.1 (.int .i64 x.1) x.2.2.2.2 x.2.2.1) (0,.gs h.length 0 0 0 0 7 true,h++[some (0,[])],[h.length],[]) ⟨by simp,dQ h 7,by simp,by simp,cc.app _ _⟩ ⟨by simp[uM,cj,ck],rfl,rfl⟩ ?_
  rintro⟨k,v,H,fp,L⟩ ⟨hk,ho,nd,hfp,hN⟩
  simp only at hk ho nd hfp hN
  simp only[EZ,ah,Nat.reduceAdd,Nat.reduceBEq,wF,uM,L0]
  refine ba (fun hlt=>?_) (fun hge=>?_)
  rotate_left
  · have hge:k=l.length:=by simp at hge;omega
    subst hge
    simp only[EZ,ah,Nat.reduceAdd,Nat.reduceBEq,wF]
    rw[List.take_length]at ho
    obtain⟨N,rfl⟩:=hN.out
    exact⟨ho.cR,N,fp,rfl,ho,nd,hfp⟩
  have hlt:k<l.length:=by simpa using hlt
  have i0:=bW (β:=β) (sz:=7) (ex:=false) (ce:=aA.c β) hlt
  rw[e0]at i0
  have hox:=ho' _ (List.getElem_mem hlt)
  have hal:l[k].args.length≤1048576:=hox.2
  have ho1:=ho.ext (cc.app H [some (0,[])])
  obtain⟨w,H1,fw,eb,ow,nw,hfw,hlw,hmw⟩:=j7 (bytes:=16) (dQ H 2) (by simp) (by omega) (β:=β) (l:=l[k].args) (c:=ae.c β) (fun x=>⟨rfl,rfl⟩) (fun x=>(ae.cr false x).symm) (by simp only[List.length_nil,aX];omega)
  have ew:cc H H1:=(cc.app H [some (0,[])]).vI hlw hfw (by simp)
  have bw:∀c∈fw,H.length≤c:=fun c hc=>by
    rcases hmw c hc with g|g
    · simp at g;omega
    · simp at g;omega
  have hdis:(fp++(fw++[])).Nodup:=by rw[List.append_nil];exact bR nd nw (fun c hc=>ho.lt c hc) bw
  replace ho:=ho.ext ew
  have hx1:=hN.trans ew
  obtain⟨c1,c2,c3,c4⟩:=ow.cell
  have ow2:aV H1 [.int .i64 l[k].target,.str l[k].name,w,.int .i64 l[k].result,.int .i64 l[k].tag.vat,.int .i64 l[k].tag.entity,.int .i64 l[k].tag.seq] l[k].cd (fw++[]):=.i (.s (.o ow (.i (.i (.i (.i .nil))))))
  obtain⟨v',H',fp',ea,o',nd',hf',hl',hm'⟩:=dz (bytes:=80) ho hdis (by omega) rfl ow2 (by simp only[List.length_map,List.length_take,aX];omega)
  simp only[EZ,ah,Nat.reduceAdd,Nat.reduceBEq,wF,i0,aA.c,EA,bo,eb,c1,c2,c3,ea]
  refine⟨(k+1,v',H',fp',_),⟨hlt,by simp only;rw[List.take_succ_eq_append_getElem hlt,List.map_append];exact o',nd',fun c hc=>?_,hx1.vI hl' hf' hfp⟩,by simp only;omega,⟨by rw[wN (by omega)];simp[uM,cj,ck],rfl,rfl⟩⟩
  have:=hN.len;have:=hx1.len
  rcases hm' c hc with g|g|g
  · exact hfp c g
  · have:=bw c (by simpa using g);omega
  · omega
theorem wP(β:Bool)(l:List aH)(hl:l.length≤1048576)(h:AH):T Tryz.prog Γ Fn.U6 [.vs β 2 false (l.map (aH.c β))] h (bc h [.c (.sl 2 (l.map aH.cd))]):=
  lU aF mixed (fun hw=>MH hw) (by omega) (by simp only[aX];omega) (fun x=>⟨rfl,rfl⟩) (fun x=>(aH.cr false x).symm)
theorem ve(β:Bool)(l:List aD)(hl:l.length≤1048576)(h:AH):T Tryz.prog Γ Fn.UQ [.vs β 3 false (l.map (aD.c β))] h (bc h [.c (.sl 3 (l.map aD.cd))]):=
  lU aF mixed (fun hw=>QJ hw) (by omega) (by simp only[aX];omega) (fun x=>⟨rfl,rfl⟩) (fun x=>(aD.cr false x).symm)
theorem j5(β:Bool)(l:List ak)(hl:l.length≤1048576)(h:AH):T Tryz.prog Γ Fn.Ld [.vs β 2 false (l.map (ak.c β))] h (bc h [.c (.sl 2 (l.map ak.cd))]):=
  lU aF mixed (fun hw=>OC hw) (by omega) (by simp only[aX];omega) (fun x=>⟨rfl,rfl⟩) (fun x=>(ak.cr false x).symm)
theorem yq(β:Bool)(l:List aL)(hl:l.length≤1048576)(h:AH):T Tryz.prog Γ Fn.W7 [.vs β 2 false (l.map (aL.c β))] h (bc h [.c (.sl 2 (l.map aL.cd))]):=
  lU aF mixed (fun hw=>Nu hw) (by omega) (by simp only[aX];omega) (fun x=>⟨rfl,rfl⟩) (fun x=>(aL.cr false x).symm)
theorem Qa(β:Bool)(e:an)(he:e.ok 1048576)(h:AH):T Tryz.prog Γ Fn.Vn [.agg (e.c β)] h (bc h [.a e.cd]):=by
  refine T.ez ?_
  refine Pt (au aF mixed [] _ _ _ ?_)
  unfold ED
  simp only[EZ,ah,Nat.reduceAdd,Nat.reduceBEq,wJ,ly,bo,ER,an.c]
  refine aq.ref (by simp only[EO]) (jC β e.slots he.1 _) ?_
  rintro w1 H1 fr
  replace fr:bc h _ _ _:=fr
  obtain⟨f1,o1,n1,b1,e1⟩:=fr.c1
  obtain⟨a1a,a1b,a1c,a1d⟩:=o1.cell
  simp only[EZ,ah,Nat.reduceAdd,Nat.reduceBEq,wJ,ly,bo,ER,an.c,a1a,a1b,a1c]
  refine⟨(by first|exact e1.mem _ _ _|exact ct (e1.mem _ _ _)),?_⟩
  refine aq.ref (by simp only[EO]) (Bi β e.queue he.2.1 he.2.2.1 _) ?_
  rintro w2 H2 fr
  replace fr:bc H1 _ _ _:=fr
  obtain⟨f2,o2,n2,b2,e2⟩:=fr.c1
  obtain⟨a2a,a2b,a2c,a2d⟩:=o2.cell
  simp only[EZ,ah,Nat.reduceAdd,Nat.reduceBEq,wJ,ly,bo,ER,an.c,a1a,a1b,a1c,a2a,a2b,a2c]
  refine⟨(by first|exact e2.mem _ _ _|exact ct (e2.mem _ _ _)),?_⟩
  refine aq.ref (by simp only[EO]) (wP β e.askers he.2.2.2 _) ?_
  rintro w3 H3 fr
  replace fr:bc H2 _ _ _:=fr
  obtain⟨f3,o3,n3,b3,e3⟩:=fr.c1
  obtain⟨a3a,a3b,a3c,a3d⟩:=o3.cell
  simp only[EZ,ah,Nat.reduceAdd,Nat.reduceBEq,wJ,ly,bo,ER,an.c,a1a,a1b,a1c,a2a,a2b,a2c,a3a,a3b,a3c]
  have n12:(f1++f2).Nodup:=bR n1 n2 (fun c hc=>o1.lt c hc) b2
  have q1:=(o1.ext e2).ext e3
  have q2:=o2.ext e3
  have hl1:=e1.len
  have hl2:=e2.len
  have n123:((f1++f2)++f3).Nodup:=bR n12 n3 (fun c hc=>by
    rcases List.mem_append.1 hc with g|g
    · have:=o1.lt c g;omega
    · exact o2.lt c g) b3
  obtain⟨N,hN⟩:=((e1.trans e2).trans e3).out
  refine⟨by simp[cR,bX,a1b,a1c,a1d,a2b,a2c,a2d,a3b,a3c,a3d,j8,jZ,kD],_,N,f1++(f2++(f3++[])),rfl,hN,?_,by rw[List.append_nil,←List.append_assoc];exact n123,fun c hc=>?_⟩
  · exact .i (.i (.o q1 (.i (.i (.i (.o q2 (.o o3 (.i (.i (.i (.i .nil)))))))))))
  · simp only[List.append_nil,List.mem_append]at hc
    rcases hc with g|g|g
    · exact b1 c g
    · have:=b2 c g;omega
    · have:=b3 c g;omega
theorem Lo(β:Bool)(e:aM)(he:e.ok 1048576)(h:AH):T Tryz.prog Γ Fn.Vh [.agg (e.c β)] h (bc h [.a e.cd]):=by
  refine T.ez ?_
  refine Lu (au aF mixed [] _ _ _ ?_)
  unfold Hd
  simp only[EZ,ah,Nat.reduceAdd,Nat.reduceBEq,v8,lP,bo,ER,aM.c]
  refine aq.ref (by simp only[EO]) (ve β e.exports he.1 _) ?_
  rintro w1 H1 fr
  replace fr:bc h _ _ _:=fr
  obtain⟨f1,o1,n1,b1,e1⟩:=fr.c1
  obtain⟨a1a,a1b,a1c,a1d⟩:=o1.cell
  simp only[EZ,ah,Nat.reduceAdd,Nat.reduceBEq,v8,lP,bo,ER,aM.c,a1a,a1b,a1c]
  refine⟨(by first|exact e1.mem _ _ _|exact ct (e1.mem _ _ _)),?_⟩
  refine aq.ref (by simp only[EO]) (j5 β e.questions he.2.1 _) ?_
  rintro w2 H2 fr
  replace fr:bc H1 _ _ _:=fr
  obtain⟨f2,o2,n2,b2,e2⟩:=fr.c1
  obtain⟨a2a,a2b,a2c,a2d⟩:=o2.cell
  simp only[EZ,ah,Nat.reduceAdd,Nat.reduceBEq,v8,lP,bo,ER,aM.c,a1a,a1b,a1c,a2a,a2b,a2c]
  refine⟨(by first|exact e2.mem _ _ _|exact ct (e2.mem _ _ _)),?_⟩
  refine aq.ref (by simp only[EO]) (j5 β e.answers he.2.2 _) ?_
  rintro w3 H3 fr
  replace fr:bc H2 _ _ _:=fr
  obtain⟨f3,o3,n3,b3,e3⟩:=fr.c1
  obtain⟨a3a,a3b,a3c,a3d⟩:=o3.cell
  simp only[EZ,ah,Nat.reduceAdd,Nat.reduceBEq,v8,lP,bo,ER,aM.c,a1a,a1b,a1c,a2a,a2b,a2c,a3a,a3b,a3c]
  have n12:(f1++f2).Nodup:=bR n1 n2 (fun c hc=>o1.lt c hc) b2
  have q1:=(o1.ext e2).ext e3
  have q2:=o2.ext e3
  have hl1:=e1.len
  have hl2:=e2.len
  have n123:((f1++f2)++f3).Nodup:=bR n12 n3 (fun c hc=>by
    rcases List.mem_append.1 hc with g|g
    · have:=o1.lt c g;omega
    · exact o2.lt c g) b3
  obtain⟨N,hN⟩:=((e1.trans e2).trans e3).out
  refine⟨by simp[cR,bX,a1b,a1c,a1d,a2b,a2c,a2d,a3b,a3c,a3d,j8,jZ,kD],_,N,f1++(f2++(f3++[])),rfl,hN,?_,by rw[List.append_nil,←List.append_assoc];exact n123,fun c hc=>?_⟩
  · exact .i (.b (.o q1 (.i (.o q2 (.i (.o o3 .nil))))))
  · simp only[List.append_nil,List.mem_append]at hc
    rcases hc with g|g|g
    · exact b1 c g
    · have:=b2 c g;omega
    · have:=b3 c g;omega
theorem S2(β:Bool)(e:aR)(he:e.ok 1048576)(h:AH):T Tryz.prog Γ Fn.Ve [.agg (e.c β)] h (bc h [.a e.cd]):=by
  refine T.ez ?_
  refine P2 (au aF mixed [] _ _ _ ?_)
  unfold IS
  simp only[EZ,ah,Nat.reduceAdd,Nat.reduceBEq,BT,bo,ER,aR.c]
  refine aq.ref (by simp only[EO]) (yq β e.args he.2 _) ?_
  rintro w1 H1 fr
  replace fr:bc h _ _ _:=fr
  obtain⟨f1,o1,n1,b1,e1⟩:=fr.c1
  obtain⟨a1a,a1b,a1c,a1d⟩:=o1.cell
  simp only[EZ,ah,Nat.reduceAdd,Nat.reduceBEq,BT,bo,ER,aR.c,a1a,a1b,a1c]
  obtain⟨N,hN⟩:=e1.out
  refine⟨by simp[cR,bX,a1b,a1c,a1d,j8,jZ,kD],_,N,f1++[],rfl,hN,?_,by rw[List.append_nil];exact n1,fun c hc=>b1 c (by simpa using hc)⟩
  exact .i (.i (.i (.i (.s (.o o1 (.i (.i (.i (.i (.i (.i .nil)))))))))))
theorem Gb(β:Bool)(e:an)(he:e.ok 1048576)(h:AH):T Tryz.prog Γ Fn.Lj [.agg (e.c β)] h (bc h [.a e.cd]):=by
  refine T.ez ?_
  refine QL (au aF mixed [] _ _ _ ?_)
  unfold IQ
  obtain⟨w1,H1,f1,ea1,o1,n1,hf1,hl1,hm1⟩:=j7 (bytes:=16) (dQ h 2) (by simp) (by omega) (β:=β) (l:=e.slots) (c:=ae.c β) (fun x=>⟨rfl,rfl⟩) (fun x=>(ae.cr false x).symm) (by have:=he.1;simp only[List.length_nil,aX];omega)
  have e1:cc h H1:=(cc.app h [some (0,[])]).vI hl1 hf1 (by simp)
  have b1:∀c∈f1,h.length≤c:=fun c hc=>by
    rcases hm1 c hc with g|g
    · simp at g;omega
    · simp at g;omega
  obtain⟨a1a,a1b,a1c,a1d⟩:=o1.cell
  simp only[EZ,ah,Nat.reduceAdd,Nat.reduceBEq,Cl,bo,ER,an.c,EA,ea1,a1a,a1b,a1c]
  refine aq.ref (by simp only[EO]) (Cn β e.queue he.2.1 he.2.2.1 _) ?_
  rintro w2 H2 fr
  replace fr:bc H1 _ _ _:=fr
  obtain⟨f2,o2,n2,b2,e2⟩:=fr.c1
  obtain⟨a2a,a2b,a2c,a2d⟩:=o2.cell
  obtain⟨w3,H3,f3,ea3,o3,n3,hf3,hl3,hm3⟩:=j7 (bytes:=16) (dQ H2 2) (by simp) (by omega) (β:=β) (l:=e.askers) (c:=aH.c β) (fun x=>⟨rfl,rfl⟩) (fun x=>(aH.cr false x).symm) (by have:=he.2.2.2;simp only[List.length_nil,aX];omega)
  have e3:cc H2 H3:=(cc.app H2 [some (0,[])]).vI hl3 hf3 (by simp)
  have b3:∀c∈f3,H2.length≤c:=fun c hc=>by
    rcases hm3 c hc with g|g
    · simp at g;omega
    · simp at g;omega
  obtain⟨a3a,a3b,a3c,a3d⟩:=o3.cell
  simp only[EZ,ah,Nat.reduceAdd,Nat.reduceBEq,Cl,bo,ER,an.c,EA,ea1,a1a,a1b,a1c,a2a,a2b,a2c,ea3,a3a,a3b,a3c]
  have n12:(f1++f2).Nodup:=bR n1 n2 (fun c hc=>o1.lt c hc) b2
  have q1:=(o1.ext e2).ext e3
  have q2:=o2.ext e3
  have l1':=e1.len
  have l2':=e2.len
  have n123:((f1++f2)++f3).Nodup:=bR n12 n3 (fun c hc=>by
    rcases List.mem_append.1 hc with g|g
    · have:=o1.lt c g;omega
    · exact o2.lt c g) b3
  obtain⟨N,hN⟩:=((e1.trans e2).trans e3).out
  refine⟨by simp[cR,bX,a1b,a1c,a1d,a2b,a2c,a2d,a3b,a3c,a3d,j8,jZ,kD],_,N,f1++(f2++(f3++[])),rfl,hN,?_,by rw[List.append_nil,←List.append_assoc];exact n123,fun c hc=>?_⟩
  · exact .i (.i (.o q1 (.i (.i (.i (.o q2 (.o o3 (.i (.i (.i (.i .nil)))))))))))
  · simp only[List.append_nil,List.mem_append]at hc
    rcases hc with g|g|g
    · exact b1 c g
    · have:=b2 c g;omega
    · have:=b3 c g;omega
theorem Rd(β:Bool)(e:aM)(he:e.ok 1048576)(h:AH):T Tryz.prog Γ Fn.U1 [.agg (e.c β)] h (bc h [.a e.cd]):=by
  refine T.ez ?_
  refine NK (au aF mixed [] _ _ _ ?_)
  unfold E9
  obtain⟨w1,H1,f1,ea1,o1,n1,hf1,hl1,hm1⟩:=j7 (bytes:=24) (dQ h 3) (by simp) (by omega) (β:=β) (l:=e.exports) (c:=aD.c β) (fun x=>⟨rfl,rfl⟩) (fun x=>(aD.cr false x).symm) (by have:=he.1;simp only[List.length_nil,aX];omega)
  have e1:cc h H1:=(cc.app h [some (0,[])]).vI hl1 hf1 (by simp)
  have b1:∀c∈f1,h.length≤c:=fun c hc=>by
    rcases hm1 c hc with g|g
    · simp at g;omega
    · simp at g;omega
  obtain⟨a1a,a1b,a1c,a1d⟩:=o1.cell
  obtain⟨w2,H2,f2,ea2,o2,n2,hf2,hl2,hm2⟩:=j7 (bytes:=16) (dQ H1 2) (by simp) (by omega) (β:=β) (l:=e.questions) (c:=ak.c β) (fun x=>⟨rfl,rfl⟩) (fun x=>(ak.cr false x).symm) (by have:=he.2.1;simp only[List.length_nil,aX];omega)
  have e2:cc H1 H2:=(cc.app H1 [some (0,[])]).vI hl2 hf2 (by simp)
  have b2:∀c∈f2,H1.length≤c:=fun c hc=>by
    rcases hm2 c hc with g|g
    · simp at g;omega
    · simp at g;omega
  obtain⟨a2a,a2b,a2c,a2d⟩:=o2.cell
  obtain⟨w3,H3,f3,ea3,o3,n3,hf3,hl3,hm3⟩:=j7 (bytes:=16) (dQ H2 2) (by simp) (by omega) (β:=β) (l:=e.answers) (c:=ak.c β) (fun x=>⟨rfl,rfl⟩) (fun x=>(ak.cr false x).symm) (by have:=he.2.2;simp only[List.length_nil,aX];omega)
  have e3:cc H2 H3:=(cc.app H2 [some (0,[])]).vI hl3 hf3 (by simp)
  have b3:∀c∈f3,H2.length≤c:=fun c hc=>by
    rcases hm3 c hc with g|g
    · simp at g;omega
    · simp at g;omega
  obtain⟨a3a,a3b,a3c,a3d⟩:=o3.cell
  simp only[EZ,ah,Nat.reduceAdd,Nat.reduceBEq,EH,bo,ER,aM.c,EA,ea1,a1a,a1b,a1c,ea2,a2a,a2b,a2c,ea3,a3a,a3b,a3c]
  have n12:(f1++f2).Nodup:=bR n1 n2 (fun c hc=>o1.lt c hc) b2
  have q1:=(o1.ext e2).ext e3
  have q2:=o2.ext e3
  have l1':=e1.len
  have l2':=e2.len
  have n123:((f1++f2)++f3).Nodup:=bR n12 n3 (fun c hc=>by
    rcases List.mem_append.1 hc with g|g
    · have:=o1.lt c g;omega
    · exact o2.lt c g) b3
  obtain⟨N,hN⟩:=((e1.trans e2).trans e3).out
  refine⟨by simp[cR,bX,a1b,a1c,a1d,a2b,a2c,a2d,a3b,a3c,a3d,j8,jZ,kD],_,N,f1++(f2++(f3++[])),rfl,hN,?_,by rw[List.append_nil,←List.append_assoc];exact n123,fun c hc=>?_⟩
  · exact .i (.b (.o q1 (.i (.o q2 (.i (.o o3 .nil))))))
  · simp only[List.append_nil,List.mem_append]at hc
    rcases hc with g|g|g
    · exact b1 c g
    · have:=b2 c g;omega
    · have:=b3 c g;omega
theorem Qu(β:Bool)(e:aR)(he:e.ok 1048576)(h:AH):T Tryz.prog Γ Fn.UX [.agg (e.c β)] h (bc h [.a e.cd]):=by
  refine T.ez ?_
  refine P6 (au aF mixed [] _ _ _ ?_)
  unfold IG
  obtain⟨w1,H1,f1,ea1,o1,n1,hf1,hl1,hm1⟩:=j7 (bytes:=16) (dQ h 2) (by simp) (by omega) (β:=β) (l:=e.args) (c:=aL.c β) (fun x=>⟨rfl,rfl⟩) (fun x=>(aL.cr false x).symm) (by have:=he.2;simp only[List.length_nil,aX];omega)
  have e1:cc h H1:=(cc.app h [some (0,[])]).vI hl1 hf1 (by simp)
  have b1:∀c∈f1,h.length≤c:=fun c hc=>by
    rcases hm1 c hc with g|g
    · simp at g;omega
    · simp at g;omega
  obtain⟨a1a,a1b,a1c,a1d⟩:=o1.cell
  simp only[EZ,ah,Nat.reduceAdd,Nat.reduceBEq,FR,bo,ER,aR.c,EA,ea1,a1a,a1b,a1c]
  obtain⟨N,hN⟩:=e1.out
  refine⟨by simp[cR,bX,a1b,a1c,a1d,j8,jZ,kD],_,N,f1++[],rfl,hN,?_,by rw[List.append_nil];exact n1,fun c hc=>b1 c (by simpa using hc)⟩
  exact .i (.i (.i (.i (.s (.o o1 (.i (.i (.i (.i (.i (.i .nil)))))))))))
end Go.Proofs.YtdlbaonelfcahaaGreatDoor
namespace Go.Proofs.YtdlbaonelfcahaaGreatDoor
open Go.AM
variable {Γ:bG}
set_option maxHeartbeats 4000000 in
set_option maxRecDepth 100000 in
theorem SZ(β:Bool)(v:aS)(hv:v.ok 1048576)(h:AH):T Tryz.prog Γ Fn.WA [.agg (v.c β)] h (bc h [.a v.cd]):=by
  have L0:=bH β 12 false v.entities (an.c β)
  have L1:=bH β 7 false v.links (aM.c β)
  have L2:=bH β 13 false v.out (aj.c β)
  obtain⟨hv1,hv2,hv3,hv4,hv5,hv6,hv7,hv8⟩:=hv
  refine T.ez ?_
  refine On (au aF mixed [] _ _ _ ?_)
  unfold HS
  simp only[EZ,ah,Nat.reduceAdd,Nat.reduceBEq,gL,dn,dw,du,dr,bo,ER,aS.c]
  refine⟨?_,?_⟩
  refine aq.ref (by simp only[EO]) (Bi β v.loop hv3 hv4 _) ?_
  rintro w1 H1 fr
  replace fr:bc h _ _ _:=fr
  obtain⟨f1,o1,n1,b1,e1⟩:=fr.c1
  obtain⟨a1,a2,a3,a4⟩:=o1.cell
  simp only[EZ,ah,Nat.reduceAdd,Nat.reduceBEq,gL,dn,dw,du,dr,bo,ER,aS.c,a1,a2,a3,L0]
  refine⟨(by first|exact e1.mem _ _ _|exact ct (e1.mem _ _ _)),(by first|exact Mem.loc ⟨_,([]:List (List AV))++[_,_],H1⟩ _ [_]|exact ct (Mem.loc ⟨_,([]:List (List AV))++[_,_],H1⟩ _ [_])),?_⟩
  rotate_left
  refine⟨(by first|exact Mem.loc ⟨_,([]:List (List AV))++[_,_],h⟩ _ [_]|exact ct (Mem.loc ⟨_,([]:List (List AV))++[_,_],h⟩ _ [_])),?_⟩
  refine aq.ref (by simp only[EO]) (Bi β v.loop hv3 hv4 _) ?_
  rintro w1 H1 fr
  replace fr:bc h _ _ _:=fr
  obtain⟨f1,o1,n1,b1,e1⟩:=fr.c1
  obtain⟨a1,a2,a3,a4⟩:=o1.cell
  simp only[EZ,ah,Nat.reduceAdd,Nat.reduceBEq,gL,dn,dw,du,dr,bo,ER,aS.c,a1,a2,a3,L0]
  refine⟨(by first|exact e1.mem _ _ _|exact ct (e1.mem _ _ _)),?_⟩
  rotate_left
  all_goals (
    refine bD aF mixed [] (fun y:Nat×AV×AH×List Nat×List (List AV)=>y.1≤v.entities.length∧bO y.2.2.1 y.2.1 (.sl 12 ((v.entities.take y.1).map an.cd)) y.2.2.2.1∧y.2.2.2.1.Nodup∧(∀c∈y.2.2.2.1,H1.length≤c)∧cc H1 y.2.2.1∧y.2.2.2.2[([]:List (List AV)).length]? = some (v.c β)∧(∃zzE,y.2.2.2.2[([]:List (List AV)).length+1]? = some zzE∧zzE.length=5)∧y.2.2.2.2[([]:List (List AV)).length+2]? = some [AV.int .i64 v.id,y.2.1,w1,.nils,.nils]) (fun y=>v.entities.length-y.1)
      (fun y=>vk (.lp ([]:List (List AV)).length 0) (.lp (([]:List (List AV)).length+1) 0) (.lp (([]:List (List AV)).length+2) 0) (.vs β 12 false (v.entities.map (an.c β))) (.int .i64 v.entities.length) (.int .i64 y.1) y.2.2.2.2 y.2.2.1) (0,.nils,H1,[],_) ⟨by simp,.nil _,by simp,by simp,cc.refl _,rfl,⟨_,rfl,rfl⟩,rfl⟩ ⟨by simp[vk,cj,ck],rfl,rfl⟩ ?_
    rintro⟨k,wE,HE,fpE,ME⟩ ⟨hk,hoE,ndE,hfpE,hxE,hM0E,⟨zzE,hM1E,hzzE⟩,hM2E⟩
    simp only at hk hoE ndE hfpE hxE hM0E hM1E hM2E
    have hMlE:([]:List (List AV)).length+2<ME.length:=aK hM2E
    obtain⟨k1E,k2E,k3E,k4E⟩:=hoE.cell
    simp only[EZ,ah,Nat.reduceAdd,Nat.reduceBEq,gL,dn,dw,du,dr,vk]
    refine ba (fun hlt=>?_) (fun hge=>?_)
    · have hlt:k<v.entities.length:=by simpa using hlt
      have i0:=bW (β:=β) (sz:=12) (ex:=false) (ce:=an.c β) hlt
      have he:=hv2 _ (List.getElem_mem hlt)
      generalize hxe:v.entities[k]=x at *
      have r2:∀(z:List AV) (e:List AV) (h:AH) (off n:Nat),(St.mk e (ME++[z]) h).cells (.lp (([]:List (List AV)).length+2) off) n=sub [AV.int .i64 v.id,wE,w1,.nils,.nils] off n:=fun z e h off n=>cu (fD hM2E _)
      have rl:∀(z:List AV) (e:List AV) (h:AH) (off n:Nat),(St.mk e (ME++[z]) h).cells (.lp ME.length off) n=sub z off n:=fun z e h off n=>cu (vc _ _)
      have s2:∀(z:List AV) (e:List AV) (h:AH) (a:AV),b8 a=true→(St.mk e (ME++[z]) h).store (.lp (([]:List (List AV)).length+2) 1) [a]=some ⟨e,(ME++[z]).set (([]:List (List AV)).length+2) (over [AV.int .i64 v.id,wE,w1,.nils,.nils] 1 [a]),h⟩:=fun z e h a ha=>jc (fD hM2E _) (by simp) ha
      simp only[EZ,ah,Nat.reduceAdd,Nat.reduceBEq,gL,dn,dw,du,dr,i0,an.c,bo,r2,rl,k1E,k2E,k3E]
      refine aq.ref (by simp only[EO]) (Qa β x he _) ?_
      rintro _ Hc fr
      replace fr:bc HE _ _ _:=fr
      obtain⟨aw,fw,rfl,ow,nw,bw,ew⟩:=fr.a1
      have hdis:(fpE++fw).Nodup:=bR ndE nw (fun c hc=>hoE.lt c hc) bw
      replace hoE:=hoE.ext ew
      have hx1:=hxE.trans ew
      have oo:=ow
      simp only[an.cd,cT,cO,dU,dT,dM]at oo
      obtain⟨_,_,_,_,rfl,_,⟨rfl,rfl⟩,⟨_,_,_,_,rfl,_,⟨rfl,rfl⟩,⟨az2,_,_,_,rfl,_,uz2,⟨_,_,_,_,rfl,_,⟨rfl,rfl⟩,⟨_,_,_,_,rfl,_,⟨rfl,rfl⟩,⟨_,_,_,_,rfl,_,⟨rfl,rfl⟩,⟨az6,_,_,_,rfl,_,uz6,⟨az7,_,_,_,rfl,_,uz7,⟨_,_,_,_,rfl,_,⟨rfl,rfl⟩,⟨_,_,_,_,rfl,_,⟨rfl,rfl⟩,⟨_,_,_,_,rfl,_,⟨rfl,rfl⟩,⟨_,_,_,_,rfl,_,⟨rfl,rfl⟩,⟨rfl,_⟩⟩⟩⟩⟩⟩⟩⟩⟩⟩⟩⟩⟩:=oo
      obtain⟨cz2a,cz2b,cz2c,cz2d⟩:=uz2.cell
      obtain⟨cz6a,cz6b,cz6c,cz6d⟩:=uz6.cell
      obtain⟨cz7a,cz7b,cz7c,cz7d⟩:=uz7.cell
      obtain⟨v',H',fp',ea,o',nd',hf',hl',hm'⟩:=dz (bytes:=144) hoE hdis (by omega) rfl ow (by simp only[List.length_map,List.length_take,aX];omega)
      obtain⟨j1,j2,j3,j4⟩:=o'.cell
      simp only[EZ,ah,Nat.reduceAdd,Nat.reduceBEq,gL,dn,dw,du,dr,EA,bo,ER,cz2a,cz2b,cz2c,cz6a,cz6b,cz6c,cz7a,cz7b,cz7c,r2,rl,k1E,k2E,k3E,ea,j1,j2,j3,s2 _ _ _ _ j2]
      have hl9:=hxE.len
      have hl8:=hx1.len
      have hb':∀c∈fp',H1.length≤c:=fun c hc=>by
        rcases hm' c hc with g|g|g
        · exact hfpE c g
        · have:=bw c g;omega
        · omega
      refine⟨(by first|exact ew.mem _ _ _|exact ct (ew.mem _ _ _)),?_⟩
      exact⟨(k+1,v',H',fp',_),⟨hlt,by simp only;rw[List.take_succ_eq_append_getElem hlt,List.map_append,hxe];exact o',nd',hb',hx1.vI hl' hf' hfpE,gD (fD hM0E _) (by simp),⟨zzE,gD (fD hM1E _) (by simp),hzzE⟩,iu (fD hM2E _)⟩,by simp only;omega,⟨by rw[wN (by omega)];simp[vk,cj,ck],rfl,rfl⟩⟩
    have hge:k=v.entities.length:=by simp at hge;omega
    subst hge
    rw[List.take_length]at hoE
    simp only[EZ,ah,Nat.reduceAdd,Nat.reduceBEq,gL,dn,dw,du,dr,show ∀(e:List AV) (h:AH) (off n:Nat),(St.mk e ME h).cells (.lp ([]:List (List AV)).length off) n=sub (v.c β) off n from fun e h off n=>cu hM0E,show ∀(e:List AV) (h:AH) (off n:Nat),(St.mk e ME h).cells (.lp (([]:List (List AV)).length+2) off) n=sub [AV.int .i64 v.id,wE,w1,.nils,.nils] off n from fun e h off n=>cu hM2E,aS.c,L0,L1,L2,ER,bo]
    refine bD aF mixed [] (fun y:Nat×AV×AH×List Nat×List (List AV)=>y.1≤v.links.length∧bO y.2.2.1 y.2.1 (.sl 7 ((v.links.take y.1).map aM.cd)) y.2.2.2.1∧y.2.2.2.1.Nodup∧(∀c∈y.2.2.2.1,HE.length≤c)∧cc HE y.2.2.1∧y.2.2.2.2[([]:List (List AV)).length]? = some (v.c β)∧(∃zzL,y.2.2.2.2[([]:List (List AV)).length+1]? = some zzL∧zzL.length=5)∧y.2.2.2.2[([]:List (List AV)).length+2]? = some [AV.int .i64 v.id,wE,w1,y.2.1,.nils]) (fun y=>v.links.length-y.1)
      (fun y=>ui (.lp ([]:List (List AV)).length 0) (.lp (([]:List (List AV)).length+1) 0) (.lp (([]:List (List AV)).length+2) 0) (.vs β 7 false (v.links.map (aM.c β))) (.int .i64 v.links.length) (.int .i64 y.1) y.2.2.2.2 y.2.2.1) (0,.nils,HE,[],_) ⟨by simp,.nil _,by simp,by simp,cc.refl _,hM0E,⟨zzE,hM1E,hzzE⟩,hM2E⟩ ⟨by simp[ui,cj,ck],rfl,rfl⟩ ?_
    rintro⟨k,wL,HL,fpL,ML⟩ ⟨hk,hoL,ndL,hfpL,hxL,hM0L,⟨zzL,hM1L,hzzL⟩,hM2L⟩
    simp only at hk hoL ndL hfpL hxL hM0L hM1L hM2L
    have hMlL:([]:List (List AV)).length+2<ML.length:=aK hM2L
    obtain⟨k1L,k2L,k3L,k4L⟩:=hoL.cell
    simp only[EZ,ah,Nat.reduceAdd,Nat.reduceBEq,gL,dn,dw,du,dr,ui]
    refine ba (fun hlt=>?_) (fun hge=>?_)
    · have hlt:k<v.links.length:=by simpa using hlt
      have i0:=bW (β:=β) (sz:=7) (ex:=false) (ce:=aM.c β) hlt
      have he:=hv6 _ (List.getElem_mem hlt)
      generalize hxe:v.links[k]=x at *
      have r2:∀(z:List AV) (e:List AV) (h:AH) (off n:Nat),(St.mk e (ML++[z]) h).cells (.lp (([]:List (List AV)).length+2) off) n=sub [AV.int .i64 v.id,wE,w1,wL,.nils] off n:=fun z e h off n=>cu (fD hM2L _)
      have rl:∀(z:List AV) (e:List AV) (h:AH) (off n:Nat),(St.mk e (ML++[z]) h).cells (.lp ML.length off) n=sub z off n:=fun z e h off n=>cu (vc _ _)
      have s2:∀(z:List AV) (e:List AV) (h:AH) (a:AV),b8 a=true→(St.mk e (ML++[z]) h).store (.lp (([]:List (List AV)).length+2) 3) [a]=some ⟨e,(ML++[z]).set (([]:List (List AV)).length+2) (over [AV.int .i64 v.id,wE,w1,wL,.nils] 3 [a]),h⟩:=fun z e h a ha=>jc (fD hM2L _) (by simp) ha
      simp only[EZ,ah,Nat.reduceAdd,Nat.reduceBEq,gL,dn,dw,du,dr,i0,aM.c,bo,r2,rl,k1L,k2L,k3L]
      refine aq.ref (by simp only[EO]) (Lo β x he _) ?_
      rintro _ Hc fr
      replace fr:bc HL _ _ _:=fr
      obtain⟨aw,fw,rfl,ow,nw,bw,ew⟩:=fr.a1
      have hdis:(fpL++fw).Nodup:=bR ndL nw (fun c hc=>hoL.lt c hc) bw
      replace hoL:=hoL.ext ew
      have hx1:=hxL.trans ew
      have oo:=ow
      simp only[aM.cd,cT,cO,dU,dT,dM]at oo
      obtain⟨_,_,_,_,rfl,_,⟨rfl,rfl⟩,⟨_,_,_,_,rfl,_,⟨rfl,rfl⟩,⟨az2,_,_,_,rfl,_,uz2,⟨_,_,_,_,rfl,_,⟨rfl,rfl⟩,⟨az4,_,_,_,rfl,_,uz4,⟨_,_,_,_,rfl,_,⟨rfl,rfl⟩,⟨az6,_,_,_,rfl,_,uz6,⟨rfl,_⟩⟩⟩⟩⟩⟩⟩⟩:=oo
      obtain⟨cz2a,cz2b,cz2c,cz2d⟩:=uz2.cell
      obtain⟨cz4a,cz4b,cz4c,cz4d⟩:=uz4.cell
      obtain⟨cz6a,cz6b,cz6c,cz6d⟩:=uz6.cell
      obtain⟨v',H',fp',ea,o',nd',hf',hl',hm'⟩:=dz (bytes:=104) hoL hdis (by omega) rfl ow (by simp only[List.length_map,List.length_take,aX];omega)
      obtain⟨j1,j2,j3,j4⟩:=o'.cell
      simp only[EZ,ah,Nat.reduceAdd,Nat.reduceBEq,gL,dn,dw,du,dr,EA,bo,ER,cz2a,cz2b,cz2c,cz4a,cz4b,cz4c,cz6a,cz6b,cz6c,r2,rl,k1L,k2L,k3L,ea,j1,j2,j3,s2 _ _ _ _ j2]
      have hl9:=hxL.len
      have hl8:=hx1.len
      have hb':∀c∈fp',HE.length≤c:=fun c hc=>by
        rcases hm' c hc with g|g|g
        · exact hfpL c g
        · have:=bw c g;omega
        · omega
      refine⟨(by first|exact ew.mem _ _ _|exact ct (ew.mem _ _ _)),?_⟩
      exact⟨(k+1,v',H',fp',_),⟨hlt,by simp only;rw[List.take_succ_eq_append_getElem hlt,List.map_append,hxe];exact o',nd',hb',hx1.vI hl' hf' hfpL,gD (fD hM0L _) (by simp),⟨zzL,gD (fD hM1L _) (by simp),hzzL⟩,iu (fD hM2L _)⟩,by simp only;omega,⟨by rw[wN (by omega)];simp[ui,cj,ck],rfl,rfl⟩⟩
    have hge:k=v.links.length:=by simp at hge;omega
    subst hge
    rw[List.take_length]at hoL
    simp only[EZ,ah,Nat.reduceAdd,Nat.reduceBEq,gL,dn,dw,du,dr,show ∀(e:List AV) (h:AH) (off n:Nat),(St.mk e ML h).cells (.lp ([]:List (List AV)).length off) n=sub (v.c β) off n from fun e h off n=>cu hM0L,show ∀(e:List AV) (h:AH) (off n:Nat),(St.mk e ML h).cells (.lp (([]:List (List AV)).length+2) off) n=sub [AV.int .i64 v.id,wE,w1,wL,.nils] off n from fun e h off n=>cu hM2L,aS.c,L0,L1,L2,ER,bo]
    refine bD aF mixed [] (fun y:Nat×AV×AH×List Nat×List (List AV)=>y.1≤v.out.length∧bO y.2.2.1 y.2.1 (.sl 13 ((v.out.take y.1).map aj.cd)) y.2.2.2.1∧y.2.2.2.1.Nodup∧(∀c∈y.2.2.2.1,HL.length≤c)∧cc HL y.2.2.1∧y.2.2.2.2[([]:List (List AV)).length]? = some (v.c β)∧(∃zzO,y.2.2.2.2[([]:List (List AV)).length+1]? = some zzO∧zzO.length=5)∧y.2.2.2.2[([]:List (List AV)).length+2]? = some [AV.int .i64 v.id,wE,w1,wL,y.2.1]) (fun y=>v.out.length-y.1)
      (fun y=>uo (.lp (([]:List (List AV)).length+1) 0) (.lp (([]:List (List AV)).length+2) 0) (.vs β 13 false (v.out.map (aj.c β))) (.int .i64 v.out.length) (.int .i64 y.1) y.2.2.2.2 y.2.2.1) (0,.nils,HL,[],_) ⟨by simp,.nil _,by simp,by simp,cc.refl _,hM0L,⟨zzL,hM1L,hzzL⟩,hM2L⟩ ⟨by simp[uo,cj,ck],rfl,rfl⟩ ?_
    rintro⟨k,wO,HO,fpO,MO⟩ ⟨hk,hoO,ndO,hfpO,hxO,hM0O,⟨zzO,hM1O,hzzO⟩,hM2O⟩
    simp only at hk hoO ndO hfpO hxO hM0O hM1O hM2O
    have hMlO:([]:List (List AV)).length+2<MO.length:=aK hM2O
    obtain⟨k1O,k2O,k3O,k4O⟩:=hoO.cell
    simp only[EZ,ah,Nat.reduceAdd,Nat.reduceBEq,gL,dn,dw,du,dr,uo]
    refine ba (fun hlt=>?_) (fun hge=>?_)
    · have hlt:k<v.out.length:=by simpa using hlt
      have i0:=bW (β:=β) (sz:=13) (ex:=false) (ce:=aj.c β) hlt
      have he:=hv8 _ (List.getElem_mem hlt)
      generalize hxe:v.out[k]=x at *
      have r2:∀(z:List AV) (e:List AV) (h:AH) (off n:Nat),(St.mk e (MO++[z]) h).cells (.lp (([]:List (List AV)).length+2) off) n=sub [AV.int .i64 v.id,wE,w1,wL,wO] off n:=fun z e h off n=>cu (fD hM2O _)
      have rl:∀(z:List AV) (e:List AV) (h:AH) (off n:Nat),(St.mk e (MO++[z]) h).cells (.lp MO.length off) n=sub z off n:=fun z e h off n=>cu (vc _ _)
      have s2:∀(z:List AV) (e:List AV) (h:AH) (a:AV),b8 a=true→(St.mk e (MO++[z]) h).store (.lp (([]:List (List AV)).length+2) 4) [a]=some ⟨e,(MO++[z]).set (([]:List (List AV)).length+2) (over [AV.int .i64 v.id,wE,w1,wL,wO] 4 [a]),h⟩:=fun z e h a ha=>jc (fD hM2O _) (by simp) ha
      simp only[EZ,ah,Nat.reduceAdd,Nat.reduceBEq,gL,dn,dw,du,dr,i0,aj.c,bo,r2,rl,k1O,k2O,k3O]
      refine aq.ref (by simp only[EO]) (S2 β x.message he _) ?_
      rintro _ Hc fr
      replace fr:bc HO _ _ _:=fr
      obtain⟨aw,fw,rfl,ow,nw,bw,ew⟩:=fr.a1
      have hdis:(fpO++fw).Nodup:=bR ndO nw (fun c hc=>hoO.lt c hc) bw
      replace hoO:=hoO.ext ew
      have hx1:=hxO.trans ew
      have oo:=ow
      simp only[aR.cd,cT,cO,dU,dT,dM]at oo
      obtain⟨_,_,_,_,rfl,_,⟨rfl,rfl⟩,⟨_,_,_,_,rfl,_,⟨rfl,rfl⟩,⟨_,_,_,_,rfl,_,⟨rfl,rfl⟩,⟨_,_,_,_,rfl,_,⟨rfl,rfl⟩,⟨_,_,_,_,rfl,_,⟨rfl,rfl⟩,⟨az5,_,_,_,rfl,_,uz5,⟨_,_,_,_,rfl,_,⟨rfl,rfl⟩,⟨_,_,_,_,rfl,_,⟨rfl,rfl⟩,⟨_,_,_,_,rfl,_,⟨rfl,rfl⟩,⟨_,_,_,_,rfl,_,⟨rfl,rfl⟩,⟨_,_,_,_,rfl,_,⟨rfl,rfl⟩,⟨_,_,_,_,rfl,_,⟨rfl,rfl⟩,⟨rfl,_⟩⟩⟩⟩⟩⟩⟩⟩⟩⟩⟩⟩⟩:=oo
      obtain⟨cz5a,cz5b,cz5c,cz5d⟩:=uz5.cell
      obtain⟨v',H',fp',ea,o',nd',hf',hl',hm'⟩:=dz (bytes:=128) hoO hdis (by omega) rfl (aV.i (k:=.i64) (n:=x.to_) ow) (by simp only[List.length_map,List.length_take,aX];omega)
      obtain⟨j1,j2,j3,j4⟩:=o'.cell
      simp only[EZ,ah,Nat.reduceAdd,Nat.reduceBEq,gL,dn,dw,du,dr,EA,bo,ER,cz5a,cz5b,cz5c,r2,rl,k1O,k2O,k3O,ea,j1,j2,j3,s2 _ _ _ _ j2]
      have hl9:=hxO.len
      have hl8:=hx1.len
      have hb':∀c∈fp',HL.length≤c:=fun c hc=>by
        rcases hm' c hc with g|g|g
        · exact hfpO c g
        · have:=bw c g;omega
        · omega
      refine⟨(by first|exact ew.mem _ _ _|exact ct (ew.mem _ _ _)),?_⟩
      exact⟨(k+1,v',H',fp',_),⟨hlt,by simp only;rw[List.take_succ_eq_append_getElem hlt,List.map_append,hxe];exact o',nd',hb',hx1.vI hl' hf' hfpO,gD (fD hM0O _) (by simp),⟨zzO,gD (fD hM1O _) (by simp),hzzO⟩,iu (fD hM2O _)⟩,by simp only;omega,⟨by rw[wN (by omega)];simp[uo,cj,ck],rfl,rfl⟩⟩
    have hge:k=v.out.length:=by simp at hge;omega
    subst hge
    rw[List.take_length]at hoO
    simp only[EZ,ah,Nat.reduceAdd,Nat.reduceBEq,gL,dn,dw,du,dr,show ∀(e:List AV) (h:AH) (off n:Nat),(St.mk e MO h).cells (.lp (([]:List (List AV)).length+2) off) n=sub [AV.int .i64 v.id,wE,w1,wL,wO] off n from fun e h off n=>cu hM2O,show ∀(e:List AV) (h:AH),(St.mk e MO h).store (.lp (([]:List (List AV)).length+1) 0) [AV.int .i64 v.id,wE,w1,wL,wO]=some ⟨e,MO.set (([]:List (List AV)).length+1) [AV.int .i64 v.id,wE,w1,wL,wO],h⟩ from fun e h=>tj hM1O (by rw[hzzO];rfl) (by simp[Eh,k2E,a2,k2L,k2O]),show ∀(e:List AV) (h:AH) (off n:Nat),(St.mk e (MO.set (([]:List (List AV)).length+1) [AV.int .i64 v.id,wE,w1,wL,wO]) h).cells (.lp (([]:List (List AV)).length+1) off) n=sub [AV.int .i64 v.id,wE,w1,wL,wO] off n from fun e h off n=>cu (iu hM1O),ER,bo]
    have z1:=((o1.ext hxE).ext hxL).ext hxO
    have zE:=(hoE.ext hxL).ext hxO
    have zL:=hoL.ext hxO
    have y1:=e1.len
    have yE:=hxE.len
    have yL:=hxL.len
    have hE2:∀c∈fpE,c<HE.length:=fun c hc=>hoE.lt c hc
    have hL2:∀c∈fpL,c<HL.length:=fun c hc=>hoL.lt c hc
    have h12:∀c∈f1,c<H1.length:=fun c hc=>o1.lt c hc
    obtain⟨N,hN⟩:=(((e1.trans hxE).trans hxL).trans hxO).out
    refine⟨by simp[cR,bX,a2,a3,a4,k2E,k3E,k4E,k2L,k3L,k4L,k2O,k3O,k4O,j8,jZ,kD],_,N,fpE++(f1++(fpL++(fpO++[]))),rfl,hN,.i (.o zE (.o z1 (.o zL (.o hoO .nil)))),?_,fun c hc=>?_⟩
    · rw[List.append_nil]
      refine List.nodup_append.2 ⟨ndE,List.nodup_append.2 ⟨n1,List.nodup_append.2 ⟨ndL,ndO,fun x hx y hy=>?_⟩,fun x hx y hy=>?_⟩,fun x hx y hy=>?_⟩
      · have:=hL2 x hx;have:=hfpO y hy;omega
      · have:=h12 x hx
        rcases List.mem_append.1 hy with g|g
        · have:=hfpL y g;omega
        · have:=hfpO y g;omega
      · have:=hE2 x hx;have:=hfpE x hx
        rcases List.mem_append.1 hy with g|g
        · have:=h12 y g;omega
        · rcases List.mem_append.1 g with g|g
          · have:=hfpL y g;omega
          · have:=hfpO y g;omega
    · simp only[List.append_nil,List.mem_append]at hc
      rcases hc with g|g|g|g
      · have:=hfpE c g;omega
      · have:=b1 c g;omega
      · have:=hfpL c g;omega
      · have:=hfpO c g;omega)
end Go.Proofs.YtdlbaonelfcahaaGreatDoor
namespace Go.Proofs.YtdlbaonelfcahaaGreatDoor
open Go.AM
variable {Γ:bG}
set_option maxHeartbeats 4000000 in
set_option maxRecDepth 100000 in
theorem Gm(β:Bool)(v:aS)(hv:v.ok 1048576)(h:AH):T Tryz.prog Γ Fn.UZ [.agg (v.c β)] h (bc h [.a v.cd]):=by
  have L0:=bH β 12 false v.entities (an.c β)
  have L1:=bH β 7 false v.links (aM.c β)
  have L2:=bH β 13 false v.out (aj.c β)
  obtain⟨hv1,hv2,hv3,hv4,hv5,hv6,hv7,hv8⟩:=hv
  refine T.ez ?_
  refine Ts (au aF mixed [] _ _ _ ?_)
  unfold IJ
  simp only[EZ,ah,Nat.reduceAdd,Nat.reduceBEq,gJ,di,dv,dp,dk,bo,ER,aS.c]
  refine⟨?_,?_⟩
  refine aq.ref (by simp only[EO]) (Cn β v.loop hv3 hv4 _) ?_
  rintro w1 H1 fr
  replace fr:bc h _ _ _:=fr
  obtain⟨f1,o1,n1,b1,e1⟩:=fr.c1
  obtain⟨a1,a2,a3,a4⟩:=o1.cell
  simp only[EZ,ah,Nat.reduceAdd,Nat.reduceBEq,gJ,di,dv,dp,dk,bo,ER,aS.c,a1,a2,a3,L0]
  refine⟨(by first|exact e1.mem _ _ _|exact ct (e1.mem _ _ _)),(by first|exact Mem.loc ⟨_,([]:List (List AV))++[_,_],H1⟩ _ [_]|exact ct (Mem.loc ⟨_,([]:List (List AV))++[_,_],H1⟩ _ [_])),?_⟩
  rotate_left
  refine⟨(by first|exact Mem.loc ⟨_,([]:List (List AV))++[_,_],h⟩ _ [_]|exact ct (Mem.loc ⟨_,([]:List (List AV))++[_,_],h⟩ _ [_])),?_⟩
  refine aq.ref (by simp only[EO]) (Cn β v.loop hv3 hv4 _) ?_
  rintro w1 H1 fr
  replace fr:bc h _ _ _:=fr
  obtain⟨f1,o1,n1,b1,e1⟩:=fr.c1
  obtain⟨a1,a2,a3,a4⟩:=o1.cell
  simp only[EZ,ah,Nat.reduceAdd,Nat.reduceBEq,gJ,di,dv,dp,dk,bo,ER,aS.c,a1,a2,a3,L0]
  refine⟨(by first|exact e1.mem _ _ _|exact ct (e1.mem _ _ _)),?_⟩
  rotate_left
  all_goals (
    refine bD aF mixed [] (fun y:Nat×AV×AH×List Nat×List (List AV)=>y.1≤v.entities.length∧bO y.2.2.1 y.2.1 (.sl 12 ((v.entities.take y.1).map an.cd)) y.2.2.2.1∧y.2.2.2.1.Nodup∧(∀c∈y.2.2.2.1,H1.length≤c)∧cc H1 y.2.2.1∧y.2.2.2.2[([]:List (List AV)).length]? = some (v.c β)∧(∃zzE,y.2.2.2.2[([]:List (List AV)).length+1]? = some zzE∧zzE.length=5)∧y.2.2.2.2[([]:List (List AV)).length+2]? = some [AV.int .i64 v.id,y.2.1,w1,.nils,.nils]) (fun y=>v.entities.length-y.1)
      (fun y=>uT (.lp ([]:List (List AV)).length 0) (.lp (([]:List (List AV)).length+1) 0) (.lp (([]:List (List AV)).length+2) 0) (.int .i64 y.1) y.2.2.2.2 y.2.2.1) (0,.nils,H1,[],_) ⟨by simp,.nil _,by simp,by simp,cc.refl _,rfl,⟨_,rfl,rfl⟩,rfl⟩ ⟨by simp[uT,cj,ck],rfl,rfl⟩ ?_
    rintro⟨k,wE,HE,fpE,ME⟩ ⟨hk,hoE,ndE,hfpE,hxE,hM0E,⟨zzE,hM1E,hzzE⟩,hM2E⟩
    simp only at hk hoE ndE hfpE hxE hM0E hM1E hM2E
    obtain⟨k1E,k2E,k3E,k4E⟩:=hoE.cell
    have r0E:∀(e:List AV) (h:AH) (off n:Nat),(St.mk e ME h).cells (.lp ([]:List (List AV)).length off) n=sub (v.c β) off n:=fun e h off n=>cu hM0E
    have r2E:∀(e:List AV) (h:AH) (off n:Nat),(St.mk e ME h).cells (.lp (([]:List (List AV)).length+2) off) n=sub [AV.int .i64 v.id,wE,w1,.nils,.nils] off n:=fun e h off n=>cu hM2E
    have s2E:∀(e:List AV) (h:AH) (a:AV),b8 a=true→(St.mk e ME h).store (.lp (([]:List (List AV)).length+2) 1) [a]=some ⟨e,ME.set (([]:List (List AV)).length+2) (over [AV.int .i64 v.id,wE,w1,.nils,.nils] 1 [a]),h⟩:=fun e h a ha=>jc hM2E (by simp) ha
    simp only[EZ,ah,Nat.reduceAdd,Nat.reduceBEq,gJ,di,dv,dp,dk,uT,r0E,aS.c,L0]
    refine ba (fun hlt=>?_) (fun hge=>?_)
    · have hlt:k<v.entities.length:=by simpa using hlt
      have i0:=bW (β:=β) (sz:=12) (ex:=false) (ce:=an.c β) hlt
      have he:=hv2 _ (List.getElem_mem hlt)
      generalize hxe:v.entities[k]=x at *
      simp only[EZ,ah,Nat.reduceAdd,Nat.reduceBEq,gJ,di,dv,dp,dk,i0,an.c,bo,r0E,aS.c,r2E,k1E,k2E,k3E]
      refine aq.ref (by simp only[EO]) (Gb β x he _) ?_
      rintro _ Hc fr
      replace fr:bc HE _ _ _:=fr
      obtain⟨aw,fw,rfl,ow,nw,bw,ew⟩:=fr.a1
      have hdis:(fpE++fw).Nodup:=bR ndE nw (fun c hc=>hoE.lt c hc) bw
      replace hoE:=hoE.ext ew
      have hx1:=hxE.trans ew
      have oo:=ow
      simp only[an.cd,cT,cO,dU,dT,dM]at oo
      obtain⟨_,_,_,_,rfl,_,⟨rfl,rfl⟩,⟨_,_,_,_,rfl,_,⟨rfl,rfl⟩,⟨az2,_,_,_,rfl,_,uz2,⟨_,_,_,_,rfl,_,⟨rfl,rfl⟩,⟨_,_,_,_,rfl,_,⟨rfl,rfl⟩,⟨_,_,_,_,rfl,_,⟨rfl,rfl⟩,⟨az6,_,_,_,rfl,_,uz6,⟨az7,_,_,_,rfl,_,uz7,⟨_,_,_,_,rfl,_,⟨rfl,rfl⟩,⟨_,_,_,_,rfl,_,⟨rfl,rfl⟩,⟨_,_,_,_,rfl,_,⟨rfl,rfl⟩,⟨_,_,_,_,rfl,_,⟨rfl,rfl⟩,⟨rfl,_⟩⟩⟩⟩⟩⟩⟩⟩⟩⟩⟩⟩⟩:=oo
      obtain⟨cz2a,cz2b,cz2c,cz2d⟩:=uz2.cell
      obtain⟨cz6a,cz6b,cz6c,cz6d⟩:=uz6.cell
      obtain⟨cz7a,cz7b,cz7c,cz7d⟩:=uz7.cell
      obtain⟨v',H',fp',ea,o',nd',hf',hl',hm'⟩:=dz (bytes:=144) hoE hdis (by omega) rfl ow (by simp only[List.length_map,List.length_take,aX];omega)
      obtain⟨j1,j2,j3,j4⟩:=o'.cell
      simp only[EZ,ah,Nat.reduceAdd,Nat.reduceBEq,gJ,di,dv,dp,dk,EA,bo,ER,cz2a,cz2b,cz2c,cz6a,cz6b,cz6c,cz7a,cz7b,cz7c,r2E,k1E,k2E,k3E,ea,j1,j2,j3,s2E _ _ _ j2]
      have hl9:=hxE.len
      have hl8:=hx1.len
      have hb':∀c∈fp',H1.length≤c:=fun c hc=>by
        rcases hm' c hc with g|g|g
        · exact hfpE c g
        · have:=bw c g;omega
        · omega
      refine⟨(by first|exact ew.mem _ _ _|exact ct (ew.mem _ _ _)),?_⟩
      exact⟨(k+1,v',H',fp',_),⟨hlt,by simp only;rw[List.take_succ_eq_append_getElem hlt,List.map_append,hxe];exact o',nd',hb',hx1.vI hl' hf' hfpE,gD hM0E (by simp),⟨zzE,gD hM1E (by simp),hzzE⟩,iu hM2E⟩,by simp only;omega,⟨by rw[wN (by omega)];simp[uT,cj,ck],rfl,rfl⟩⟩
    have hge:k=v.entities.length:=by simp at hge;omega
    subst hge
    rw[List.take_length]at hoE
    simp only[EZ,ah,Nat.reduceAdd,Nat.reduceBEq,gJ,di,dv,dp,dk,ER,bo]
    refine bD aF mixed [] (fun y:Nat×AV×AH×List Nat×List (List AV)=>y.1≤v.links.length∧bO y.2.2.1 y.2.1 (.sl 7 ((v.links.take y.1).map aM.cd)) y.2.2.2.1∧y.2.2.2.1.Nodup∧(∀c∈y.2.2.2.1,HE.length≤c)∧cc HE y.2.2.1∧y.2.2.2.2[([]:List (List AV)).length]? = some (v.c β)∧(∃zzL,y.2.2.2.2[([]:List (List AV)).length+1]? = some zzL∧zzL.length=5)∧y.2.2.2.2[([]:List (List AV)).length+2]? = some [AV.int .i64 v.id,wE,w1,y.2.1,.nils]) (fun y=>v.links.length-y.1)
      (fun y=>uH (.lp ([]:List (List AV)).length 0) (.lp (([]:List (List AV)).length+1) 0) (.lp (([]:List (List AV)).length+2) 0) (.int .i64 y.1) y.2.2.2.2 y.2.2.1) (0,.nils,HE,[],_) ⟨by simp,.nil _,by simp,by simp,cc.refl _,hM0E,⟨zzE,hM1E,hzzE⟩,hM2E⟩ ⟨by simp[uH,cj,ck],rfl,rfl⟩ ?_
    rintro⟨k,wL,HL,fpL,ML⟩ ⟨hk,hoL,ndL,hfpL,hxL,hM0L,⟨zzL,hM1L,hzzL⟩,hM2L⟩
    simp only at hk hoL ndL hfpL hxL hM0L hM1L hM2L
    obtain⟨k1L,k2L,k3L,k4L⟩:=hoL.cell
    have r0L:∀(e:List AV) (h:AH) (off n:Nat),(St.mk e ML h).cells (.lp ([]:List (List AV)).length off) n=sub (v.c β) off n:=fun e h off n=>cu hM0L
    have r2L:∀(e:List AV) (h:AH) (off n:Nat),(St.mk e ML h).cells (.lp (([]:List (List AV)).length+2) off) n=sub [AV.int .i64 v.id,wE,w1,wL,.nils] off n:=fun e h off n=>cu hM2L
    have s2L:∀(e:List AV) (h:AH) (a:AV),b8 a=true→(St.mk e ML h).store (.lp (([]:List (List AV)).length+2) 3) [a]=some ⟨e,ML.set (([]:List (List AV)).length+2) (over [AV.int .i64 v.id,wE,w1,wL,.nils] 3 [a]),h⟩:=fun e h a ha=>jc hM2L (by simp) ha
    simp only[EZ,ah,Nat.reduceAdd,Nat.reduceBEq,gJ,di,dv,dp,dk,uH,r0L,aS.c,L1]
    refine ba (fun hlt=>?_) (fun hge=>?_)
    · have hlt:k<v.links.length:=by simpa using hlt
      have i0:=bW (β:=β) (sz:=7) (ex:=false) (ce:=aM.c β) hlt
      have he:=hv6 _ (List.getElem_mem hlt)
      generalize hxe:v.links[k]=x at *
      simp only[EZ,ah,Nat.reduceAdd,Nat.reduceBEq,gJ,di,dv,dp,dk,i0,aM.c,bo,r0L,aS.c,r2L,k1L,k2L,k3L]
      refine aq.ref (by simp only[EO]) (Rd β x he _) ?_
      rintro _ Hc fr
      replace fr:bc HL _ _ _:=fr
      obtain⟨aw,fw,rfl,ow,nw,bw,ew⟩:=fr.a1
      have hdis:(fpL++fw).Nodup:=bR ndL nw (fun c hc=>hoL.lt c hc) bw
      replace hoL:=hoL.ext ew
      have hx1:=hxL.trans ew
      have oo:=ow
      simp only[aM.cd,cT,cO,dU,dT,dM]at oo
      obtain⟨_,_,_,_,rfl,_,⟨rfl,rfl⟩,⟨_,_,_,_,rfl,_,⟨rfl,rfl⟩,⟨az2,_,_,_,rfl,_,uz2,⟨_,_,_,_,rfl,_,⟨rfl,rfl⟩,⟨az4,_,_,_,rfl,_,uz4,⟨_,_,_,_,rfl,_,⟨rfl,rfl⟩,⟨az6,_,_,_,rfl,_,uz6,⟨rfl,_⟩⟩⟩⟩⟩⟩⟩⟩:=oo
      obtain⟨cz2a,cz2b,cz2c,cz2d⟩:=uz2.cell
      obtain⟨cz4a,cz4b,cz4c,cz4d⟩:=uz4.cell
      obtain⟨cz6a,cz6b,cz6c,cz6d⟩:=uz6.cell
      obtain⟨v',H',fp',ea,o',nd',hf',hl',hm'⟩:=dz (bytes:=104) hoL hdis (by omega) rfl ow (by simp only[List.length_map,List.length_take,aX];omega)
      obtain⟨j1,j2,j3,j4⟩:=o'.cell
      simp only[EZ,ah,Nat.reduceAdd,Nat.reduceBEq,gJ,di,dv,dp,dk,EA,bo,ER,cz2a,cz2b,cz2c,cz4a,cz4b,cz4c,cz6a,cz6b,cz6c,r2L,k1L,k2L,k3L,ea,j1,j2,j3,s2L _ _ _ j2]
      have hl9:=hxL.len
      have hl8:=hx1.len
      have hb':∀c∈fp',HE.length≤c:=fun c hc=>by
        rcases hm' c hc with g|g|g
        · exact hfpL c g
        · have:=bw c g;omega
        · omega
      refine⟨(by first|exact ew.mem _ _ _|exact ct (ew.mem _ _ _)),?_⟩
      exact⟨(k+1,v',H',fp',_),⟨hlt,by simp only;rw[List.take_succ_eq_append_getElem hlt,List.map_append,hxe];exact o',nd',hb',hx1.vI hl' hf' hfpL,gD hM0L (by simp),⟨zzL,gD hM1L (by simp),hzzL⟩,iu hM2L⟩,by simp only;omega,⟨by rw[wN (by omega)];simp[uH,cj,ck],rfl,rfl⟩⟩
    have hge:k=v.links.length:=by simp at hge;omega
    subst hge
    rw[List.take_length]at hoL
    simp only[EZ,ah,Nat.reduceAdd,Nat.reduceBEq,gJ,di,dv,dp,dk,ER,bo]
    refine bD aF mixed [] (fun y:Nat×AV×AH×List Nat×List (List AV)=>y.1≤v.out.length∧bO y.2.2.1 y.2.1 (.sl 13 ((v.out.take y.1).map aj.cd)) y.2.2.2.1∧y.2.2.2.1.Nodup∧(∀c∈y.2.2.2.1,HL.length≤c)∧cc HL y.2.2.1∧y.2.2.2.2[([]:List (List AV)).length]? = some (v.c β)∧(∃zzO,y.2.2.2.2[([]:List (List AV)).length+1]? = some zzO∧zzO.length=5)∧y.2.2.2.2[([]:List (List AV)).length+2]? = some [AV.int .i64 v.id,wE,w1,wL,y.2.1]) (fun y=>v.out.length-y.1)
      (fun y=>vi (.lp ([]:List (List AV)).length 0) (.lp (([]:List (List AV)).length+1) 0) (.lp (([]:List (List AV)).length+2) 0) (.int .i64 y.1) y.2.2.2.2 y.2.2.1) (0,.nils,HL,[],_) ⟨by simp,.nil _,by simp,by simp,cc.refl _,hM0L,⟨zzL,hM1L,hzzL⟩,hM2L⟩ ⟨by simp[vi,cj,ck],rfl,rfl⟩ ?_
    rintro⟨k,wO,HO,fpO,MO⟩ ⟨hk,hoO,ndO,hfpO,hxO,hM0O,⟨zzO,hM1O,hzzO⟩,hM2O⟩
    simp only at hk hoO ndO hfpO hxO hM0O hM1O hM2O
    obtain⟨k1O,k2O,k3O,k4O⟩:=hoO.cell
    have r0O:∀(e:List AV) (h:AH) (off n:Nat),(St.mk e MO h).cells (.lp ([]:List (List AV)).length off) n=sub (v.c β) off n:=fun e h off n=>cu hM0O
    have r2O:∀(e:List AV) (h:AH) (off n:Nat),(St.mk e MO h).cells (.lp (([]:List (List AV)).length+2) off) n=sub [AV.int .i64 v.id,wE,w1,wL,wO] off n:=fun e h off n=>cu hM2O
    have s2O:∀(e:List AV) (h:AH) (a:AV),b8 a=true→(St.mk e MO h).store (.lp (([]:List (List AV)).length+2) 4) [a]=some ⟨e,MO.set (([]:List (List AV)).length+2) (over [AV.int .i64 v.id,wE,w1,wL,wO] 4 [a]),h⟩:=fun e h a ha=>jc hM2O (by simp) ha
    simp only[EZ,ah,Nat.reduceAdd,Nat.reduceBEq,gJ,di,dv,dp,dk,vi,r0O,aS.c,L2]
    refine ba (fun hlt=>?_) (fun hge=>?_)
    · have hlt:k<v.out.length:=by simpa using hlt
      have i0:=bW (β:=β) (sz:=13) (ex:=false) (ce:=aj.c β) hlt
      have he:=hv8 _ (List.getElem_mem hlt)
      generalize hxe:v.out[k]=x at *
      simp only[EZ,ah,Nat.reduceAdd,Nat.reduceBEq,gJ,di,dv,dp,dk,i0,aj.c,bo,r0O,aS.c,r2O,k1O,k2O,k3O]
      refine aq.ref (by simp only[EO]) (Qu β x.message he _) ?_
      rintro _ Hc fr
      replace fr:bc HO _ _ _:=fr
      obtain⟨aw,fw,rfl,ow,nw,bw,ew⟩:=fr.a1
      have hdis:(fpO++fw).Nodup:=bR ndO nw (fun c hc=>hoO.lt c hc) bw
      replace hoO:=hoO.ext ew
      have hx1:=hxO.trans ew
      have oo:=ow
      simp only[aR.cd,cT,cO,dU,dT,dM]at oo
      obtain⟨_,_,_,_,rfl,_,⟨rfl,rfl⟩,⟨_,_,_,_,rfl,_,⟨rfl,rfl⟩,⟨_,_,_,_,rfl,_,⟨rfl,rfl⟩,⟨_,_,_,_,rfl,_,⟨rfl,rfl⟩,⟨_,_,_,_,rfl,_,⟨rfl,rfl⟩,⟨az5,_,_,_,rfl,_,uz5,⟨_,_,_,_,rfl,_,⟨rfl,rfl⟩,⟨_,_,_,_,rfl,_,⟨rfl,rfl⟩,⟨_,_,_,_,rfl,_,⟨rfl,rfl⟩,⟨_,_,_,_,rfl,_,⟨rfl,rfl⟩,⟨_,_,_,_,rfl,_,⟨rfl,rfl⟩,⟨_,_,_,_,rfl,_,⟨rfl,rfl⟩,⟨rfl,_⟩⟩⟩⟩⟩⟩⟩⟩⟩⟩⟩⟩⟩:=oo
      obtain⟨cz5a,cz5b,cz5c,cz5d⟩:=uz5.cell
      obtain⟨v',H',fp',ea,o',nd',hf',hl',hm'⟩:=dz (bytes:=128) hoO hdis (by omega) rfl (aV.i (k:=.i64) (n:=x.to_) ow) (by simp only[List.length_map,List.length_take,aX];omega)
      obtain⟨j1,j2,j3,j4⟩:=o'.cell
      simp only[EZ,ah,Nat.reduceAdd,Nat.reduceBEq,gJ,di,dv,dp,dk,EA,bo,ER,cz5a,cz5b,cz5c,r2O,k1O,k2O,k3O,ea,j1,j2,j3,s2O _ _ _ j2]
      have hl9:=hxO.len
      have hl8:=hx1.len
      have hb':∀c∈fp',HL.length≤c:=fun c hc=>by
        rcases hm' c hc with g|g|g
        · exact hfpO c g
        · have:=bw c g;omega
        · omega
      refine⟨(by first|exact ew.mem _ _ _|exact ct (ew.mem _ _ _)),?_⟩
      exact⟨(k+1,v',H',fp',_),⟨hlt,by simp only;rw[List.take_succ_eq_append_getElem hlt,List.map_append,hxe];exact o',nd',hb',hx1.vI hl' hf' hfpO,gD hM0O (by simp),⟨zzO,gD hM1O (by simp),hzzO⟩,iu hM2O⟩,by simp only;omega,⟨by rw[wN (by omega)];simp[vi,cj,ck],rfl,rfl⟩⟩
    have hge:k=v.out.length:=by simp at hge;omega
    subst hge
    rw[List.take_length]at hoO
    simp only[EZ,ah,Nat.reduceAdd,Nat.reduceBEq,gJ,di,dv,dp,dk,show ∀(e:List AV) (h:AH) (off n:Nat),(St.mk e MO h).cells (.lp (([]:List (List AV)).length+2) off) n=sub [AV.int .i64 v.id,wE,w1,wL,wO] off n from fun e h off n=>cu hM2O,show ∀(e:List AV) (h:AH),(St.mk e MO h).store (.lp (([]:List (List AV)).length+1) 0) [AV.int .i64 v.id,wE,w1,wL,wO]=some ⟨e,MO.set (([]:List (List AV)).length+1) [AV.int .i64 v.id,wE,w1,wL,wO],h⟩ from fun e h=>tj hM1O (by rw[hzzO];rfl) (by simp[Eh,k2E,a2,k2L,k2O]),show ∀(e:List AV) (h:AH) (off n:Nat),(St.mk e (MO.set (([]:List (List AV)).length+1) [AV.int .i64 v.id,wE,w1,wL,wO]) h).cells (.lp (([]:List (List AV)).length+1) off) n=sub [AV.int .i64 v.id,wE,w1,wL,wO] off n from fun e h off n=>cu (iu hM1O),ER,bo]
    have z1:=((o1.ext hxE).ext hxL).ext hxO
    have zE:=(hoE.ext hxL).ext hxO
    have zL:=hoL.ext hxO
    have y1:=e1.len
    have yE:=hxE.len
    have yL:=hxL.len
    have hE2:∀c∈fpE,c<HE.length:=fun c hc=>hoE.lt c hc
    have hL2:∀c∈fpL,c<HL.length:=fun c hc=>hoL.lt c hc
    have h12:∀c∈f1,c<H1.length:=fun c hc=>o1.lt c hc
    obtain⟨N,hN⟩:=(((e1.trans hxE).trans hxL).trans hxO).out
    refine⟨by simp[cR,bX,a2,a3,a4,k2E,k3E,k4E,k2L,k3L,k4L,k2O,k3O,k4O,j8,jZ,kD],_,N,fpE++(f1++(fpL++(fpO++[]))),rfl,hN,.i (.o zE (.o z1 (.o zL (.o hoO .nil)))),?_,fun c hc=>?_⟩
    · rw[List.append_nil]
      refine List.nodup_append.2 ⟨ndE,List.nodup_append.2 ⟨n1,List.nodup_append.2 ⟨ndL,ndO,fun x hx y hy=>?_⟩,fun x hx y hy=>?_⟩,fun x hx y hy=>?_⟩
      · have:=hL2 x hx;have:=hfpO y hy;omega
      · have:=h12 x hx
        rcases List.mem_append.1 hy with g|g
        · have:=hfpL y g;omega
        · have:=hfpO y g;omega
      · have:=hE2 x hx;have:=hfpE x hx
        rcases List.mem_append.1 hy with g|g
        · have:=h12 y g;omega
        · rcases List.mem_append.1 g with g|g
          · have:=hfpL y g;omega
          · have:=hfpO y g;omega
    · simp only[List.append_nil,List.mem_append]at hc
      rcases hc with g|g|g|g
      · have:=hfpE c g;omega
      · have:=b1 c g;omega
      · have:=hfpL c g;omega
      · have:=hfpO c g;omega)
end Go.Proofs.YtdlbaonelfcahaaGreatDoor
