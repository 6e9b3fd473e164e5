import Derived.Test.YtccjhmhkfnnmaaaGreatR6G20
import Derived.Test.YtccjhmhkfnnmaaaGreatAmG10
set_option linter.unusedVariables false
set_option linter.unusedSimpArgs false
namespace Go.Proofs.YtccjhmhkfnnmaaaGreat
open Go.AM
variable {Γ:bY}
theorem vt{v:ar}(hv:v.entities.length≤1048576)(n:Int){H:AH}{b:Nat}{wE w2 wL w4:AV}{fE f2 fL f4:List Nat}(o:VO H b v wE w2 wL w4 fE f2 fL f4):
    T Tryz.prog Γ Fn.E2 [.gp b 0 0,.int .i64 n] H fun r h'=>((cO n v.entities.length=true∧dV 12 wE n=some r)∨(cO n v.entities.length=false∧r=.nilp))∧h'=H:=by
  have hb:=o.hb
  have cb:∀(e:List AV) (L:List (List AV)) (off n:Nat),(St.mk e L H).cells (.gp b 0 off) n=sub [.int .i64 v.id,wE,w2,wL,w4] off n:=fun e L off n=>bp hb
  obtain⟨a1,a2,a3,a4⟩:=o.oE.cell
  obtain⟨_,lE⟩:=cP o.oE
  rw[List.length_map]at lE
  refine GL (au aC aD [] _ _ _ ?_)
  unfold EN
  simp only[EZ,ag,Nat.reduceAdd,Nat.reduceBEq,tQ,aE,aO,EF,cb,a1,a2,a3,lE]
  refine al.val (by simp only[EO]) (u7 _ _ _ _) ?_
  rw[cZ _ hv]
  cases e1:cO n v.entities.length
  · simp only[EZ,ag,Nat.reduceAdd,Nat.reduceBEq,tQ]
    first|exact⟨rfl,.inr rfl⟩|exact⟨rfl,.inr ⟨rfl,rfl⟩⟩|exact⟨rfl,.inl ⟨rfl,i1⟩⟩|exact⟨rfl,.inl ⟨rfl,iR⟩⟩|exact⟨rfl,.inl ⟨i1,rfl⟩⟩|exact⟨rfl,.inl rfl⟩|exact⟨rfl,.inl i1⟩|exact⟨rfl,.inl iR⟩|(refine⟨rfl,?_⟩;simp_all;done)|trace_state
  · obtain⟨k,hk,ek,_,_⟩:=cm e1
    obtain⟨bR,gR,nR,row,fR,iR,_⟩:=o.gG hk
    rw[←ek]at iR
    simp only[EZ,ag,Nat.reduceAdd,Nat.reduceBEq,tQ,aE,aO,EF,cb,a1,a2,a3,iR]
    first|exact⟨rfl,.inr rfl⟩|exact⟨rfl,.inr ⟨rfl,rfl⟩⟩|exact⟨rfl,.inl ⟨rfl,i1⟩⟩|exact⟨rfl,.inl ⟨rfl,iR⟩⟩|exact⟨rfl,.inl ⟨i1,rfl⟩⟩|exact⟨rfl,.inl rfl⟩|exact⟨rfl,.inl i1⟩|exact⟨rfl,.inl iR⟩|(refine⟨rfl,?_⟩;simp_all;done)|trace_state
theorem Hm{v:ar}(hv:v.entities.length≤1048576)(β:Bool)(x:ae){H:AH}{b:Nat}{wE w2 wL w4:AV}{fE f2 fL f4:List Nat}(o:VO H b v wE w2 wL w4 fE f2 fL f4):
    T Tryz.prog Γ Fn.MF [.gp b 0 0,.agg (x.c β)] H fun r h'=>(((decide (x.kind=1) && cO x.n v.entities.length)=true∧dV 12 wE x.n=some r)∨((decide (x.kind=1) && cO x.n v.entities.length)=false∧r=.nilp))∧h'=H:=by
  refine HB (au aC aD [] _ _ _ ?_)
  unfold Ed
  by_cases h1:x.kind=1
  · simp only[EZ,ag,Nat.reduceAdd,Nat.reduceBEq,pW,aE,ae.c,an,decide_eq_true h1]
    refine al.ref (by simp only[EO]) (vt hv x.n o) ?_
    rintro r h' ⟨⟨e1,i1⟩|⟨e1,rfl⟩,e⟩
    · replace e:h'=H:=e
      subst e
      obtain⟨k,hk,ek,_,_⟩:=cm e1
      obtain⟨bR,gR,nR,row,fR,iR,_⟩:=o.gG hk
      rw[←ek,i1]at iR
      injection iR with iR
      subst iR
      simp only[EZ,ag,Nat.reduceAdd,Nat.reduceBEq,pW]
      rw[e1]
      first|exact⟨rfl,.inr rfl⟩|exact⟨rfl,.inr ⟨rfl,rfl⟩⟩|exact⟨rfl,.inl ⟨rfl,i1⟩⟩|exact⟨rfl,.inl ⟨rfl,iR⟩⟩|exact⟨rfl,.inl ⟨i1,rfl⟩⟩|exact⟨rfl,.inl rfl⟩|exact⟨rfl,.inl i1⟩|exact⟨rfl,.inl iR⟩|(refine⟨rfl,?_⟩;simp_all;done)|trace_state
    · replace e:h'=H:=e
      subst e
      simp only[EZ,ag,Nat.reduceAdd,Nat.reduceBEq,pW]
      rw[e1]
      first|exact⟨rfl,.inr rfl⟩|exact⟨rfl,.inr ⟨rfl,rfl⟩⟩|exact⟨rfl,.inl ⟨rfl,i1⟩⟩|exact⟨rfl,.inl ⟨rfl,iR⟩⟩|exact⟨rfl,.inl ⟨i1,rfl⟩⟩|exact⟨rfl,.inl rfl⟩|exact⟨rfl,.inl i1⟩|exact⟨rfl,.inl iR⟩|(refine⟨rfl,?_⟩;simp_all;done)|trace_state
  · simp only[EZ,ag,Nat.reduceAdd,Nat.reduceBEq,pW,aE,ae.c,an,decide_eq_false h1]
    first|exact⟨rfl,.inr rfl⟩|exact⟨rfl,.inr ⟨rfl,rfl⟩⟩|exact⟨rfl,.inl ⟨rfl,i1⟩⟩|exact⟨rfl,.inl ⟨rfl,iR⟩⟩|exact⟨rfl,.inl ⟨i1,rfl⟩⟩|exact⟨rfl,.inl rfl⟩|exact⟨rfl,.inl i1⟩|exact⟨rfl,.inl iR⟩|(refine⟨rfl,?_⟩;simp_all;done)|trace_state
theorem rk(v:ar)(x:ae):gA v x=((decide (x.kind=1) && cO x.n v.entities.length) && ju (aA v x.n)):=by
  simp only[gA,aA,Bool.and_assoc]
theorem Oz{v:ar}(hv:v.entities.length≤1048576)(β:Bool)(x:ae){H:AH}{b:Nat}{wE w2 wL w4:AV}{fE f2 fL f4:List Nat}(o:VO H b v wE w2 wL w4 fE f2 fL f4):
    T Tryz.prog Γ Fn.GP [.gp b 0 0,.agg (x.c β)] H fun r h'=>((gA v x=true∧dV 12 wE x.n=some r)∨(gA v x=false∧r=.nilp))∧h'=H:=by
  refine JR (au aC aD [] _ _ _ ?_)
  unfold Ei
  simp only[EZ,ag,Nat.reduceAdd,Nat.reduceBEq,lX,aE,ae.c]
  refine al.ref (by simp only[EO]) (Hm hv false x o) ?_
  rintro r h' ⟨⟨e1,i1⟩|⟨e1,rfl⟩,e⟩
  · replace e:h'=H:=e
    subst e
    obtain⟨k,hk,ek,_,eA⟩:=cm (Bool.and_eq_true_iff.1 e1).2
    obtain⟨bR,gR,nR,row,fR,iR,rR,lR,oR,_⟩:=o.gG hk
    rw[←ek,i1]at iR
    injection iR with iR
    subst iR
    rw[←eA]at oR
    have seeR:iM h' (.agg row) (.agg ((aA v x.n).c true)):=aG.fV (aq.cu true _) oR
    obtain⟨wS,wQ,wA,fS,fQ,fA,rfl,_,oS,oQ,oA⟩:=cX oR
    obtain⟨x1,x2,x3,x4⟩:=oS.cell
    obtain⟨x5,x6,x7,x8⟩:=oQ.cell
    obtain⟨x9,xa,xb,xc⟩:=oA.cell
    simp only[EZ,ag,Nat.reduceAdd,Nat.reduceBEq,lX,aE,aO,EF,rR,x1,x2,x3,x5,x6,x7,x9,xa,xb]
    refine al.fV (by simp only[EO,x3,x7,xb]) (aK seeR b8) (fun h=>Kd true (aA v x.n) h) (.bool _) ?_
    rw[rk,e1]
    cases hp:ju (aA v x.n)
    · simp only[EZ,ag,Nat.reduceAdd,Nat.reduceBEq,lX]
      first|exact⟨rfl,.inr rfl⟩|exact⟨rfl,.inr ⟨rfl,rfl⟩⟩|exact⟨rfl,.inl ⟨rfl,i1⟩⟩|exact⟨rfl,.inl ⟨rfl,iR⟩⟩|exact⟨rfl,.inl ⟨i1,rfl⟩⟩|exact⟨rfl,.inl rfl⟩|exact⟨rfl,.inl i1⟩|exact⟨rfl,.inl iR⟩|(refine⟨rfl,?_⟩;simp_all;done)|trace_state
    · simp only[EZ,ag,Nat.reduceAdd,Nat.reduceBEq,lX]
      first|exact⟨rfl,.inr rfl⟩|exact⟨rfl,.inr ⟨rfl,rfl⟩⟩|exact⟨rfl,.inl ⟨rfl,i1⟩⟩|exact⟨rfl,.inl ⟨rfl,iR⟩⟩|exact⟨rfl,.inl ⟨i1,rfl⟩⟩|exact⟨rfl,.inl rfl⟩|exact⟨rfl,.inl i1⟩|exact⟨rfl,.inl iR⟩|(refine⟨rfl,?_⟩;simp_all;done)|trace_state
  · replace e:h'=H:=e
    subst e
    rw[rk,e1]
    simp only[EZ,ag,Nat.reduceAdd,Nat.reduceBEq,lX]
    first|exact⟨rfl,.inr rfl⟩|exact⟨rfl,.inr ⟨rfl,rfl⟩⟩|exact⟨rfl,.inl ⟨rfl,i1⟩⟩|exact⟨rfl,.inl ⟨rfl,iR⟩⟩|exact⟨rfl,.inl ⟨i1,rfl⟩⟩|exact⟨rfl,.inl rfl⟩|exact⟨rfl,.inl i1⟩|exact⟨rfl,.inl iR⟩|(refine⟨rfl,?_⟩;simp_all;done)|trace_state
end Go.Proofs.YtccjhmhkfnnmaaaGreat
namespace Go.Proofs.YtccjhmhkfnnmaaaGreat
open Go.AM
variable {Γ:bY}
set_option maxHeartbeats 1000000 in
theorem MT(v:ar)(x:aq)(H:AH){b:Nat}{f:List Nat}(a:kt H b v f){am:List AV}{fm:List Nat}(om:aG H am x.cd fm)(nm:fm.Nodup)(dm:∀c∈fm,c∉f∧c≠b):
    T Tryz.prog Γ Fn.SQ [.gp b 0 0,.agg am] H fun r H'=>r=.int .i64 (jL v)∧gg H b (fun c=>c∈f∨c∈fm) H' (gm v x):=by
  obtain⟨wE,w2,wL,w4,fE,f2,fL,f4,rfl,o⟩:=a
  have hb:=o.hb
  have bf:=o.bf
  have blt:=o.blt
  have vlt:=o.lt
  have cb:∀(e:List AV) (L:List (List AV)) (off n:Nat),(St.mk e L H).cells (.gp b 0 off) n=sub [.int .i64 v.id,wE,w2,wL,w4] off n:=fun e L off n=>bp hb
  obtain⟨a1,a2,a3,a4⟩:=o.oE.cell
  obtain⟨b1,b2,b3,b4⟩:=o.o2.cell
  obtain⟨c1,c2,c3,c4⟩:=o.oL.cell
  obtain⟨d1,d2,d3,d4⟩:=o.o4.cell
  obtain⟨_,lE⟩:=cP o.oE
  rw[List.length_map]at lE
  have oo:=om
  simp only[aq.cd,fW,fN,gB,iH,iv]at oo
  obtain⟨_,_,_,_,rfl,_,⟨rfl,rfl⟩,⟨_,_,_,_,rfl,_,⟨rfl,rfl⟩,⟨az2,_,_,_,rfl,_,uz2,⟨_,_,_,_,rfl,_,⟨rfl,rfl⟩,⟨_,_,_,_,rfl,_,⟨rfl,rfl⟩,⟨_,_,_,_,rfl,_,⟨rfl,rfl⟩,⟨az6,_,_,_,rfl,_,uz6,⟨az7,_,_,_,rfl,_,uz7,⟨_,_,_,_,rfl,_,⟨rfl,rfl⟩,⟨_,_,_,_,rfl,_,⟨rfl,rfl⟩,⟨_,_,_,_,rfl,_,⟨rfl,rfl⟩,⟨_,_,_,_,rfl,_,⟨rfl,rfl⟩,⟨rfl,_⟩⟩⟩⟩⟩⟩⟩⟩⟩⟩⟩⟩⟩:=oo
  obtain⟨cz2a,cz2b,cz2c,cz2d⟩:=uz2.cell
  obtain⟨cz6a,cz6b,cz6c,cz6d⟩:=uz6.cell
  obtain⟨cz7a,cz7b,cz7c,cz7d⟩:=uz7.cell
  refine Pk (au aC aD [] _ _ _ ?_)
  unfold HJ
  simp only[EZ,ag,Nat.reduceAdd,Nat.reduceBEq,BS,sF,aE,cb]
  by_cases hf:200≤v.entities.length
  · simp only[EZ,ag,Nat.reduceAdd,Nat.reduceBEq,BS,sF,cb,lE,show decide ((200:Int)≤(v.entities.length:Int))=true from decide_eq_true (by omega),show decide ((v.entities.length:Int)≥200)=true from decide_eq_true (by omega)]
    have e:gm v x=v:=by rw[gm,if_pos hf]
    have e2:jL v = -1:=by rw[jL,if_pos hf]
    rw[e,e2]
    first|exact⟨rfl,rfl,gg.refl o.at fun c hc=>.inl hc⟩|exact⟨rfl,gg.refl o.at fun c hc=>.inl hc⟩|exact gg.refl o.at fun c hc=>.inl hc
  have nd2:(fE++fm).Nodup:=List.nodup_append.2 ⟨o.nE,nm,fun x hx y hy e=>(dm y hy).1 (aN.2 (.inl (e▸hx)))⟩
  obtain⟨v',H1,fE',ea,o',nd',hf',hl',hm'⟩:=cY (bytes:=144) o.oE nd2 (by omega) rfl om (by simp only[List.length_map,aQ];omega)
  obtain⟨j1,j2,j3,j4⟩:=o'.cell
  obtain⟨_,lE'⟩:=cP o'
  simp only[List.length_append,List.length_map,List.length_cons,List.length_nil,Nat.zero_add]at lE'
  have hb1:b7 H1 b=some (0,[.int .i64 v.id,wE,w2,wL,w4]):=by rw[bt (hf' b o.bE blt)];exact hb
  obtain⟨H2,s2,hb2,l2,r2⟩:=qT hb1 (i:=1) (w:=v') (by simp) j3
  have cb2:∀(e:List AV) (L:List (List AV)) (off n:Nat),(St.mk e L H2).cells (.gp b 0 off) n=sub [.int .i64 v.id,v',w2,wL,w4] off n:=fun e L off n=>bp hb2
  simp only[EZ,ag,Nat.reduceAdd,Nat.reduceBEq,BS,sF,EA,aE,cb,lE,show decide ((200:Int)≤(v.entities.length:Int))=false from decide_eq_false (by omega),show decide ((v.entities.length:Int)≥200)=false from decide_eq_false (by omega),cz2a,cz2b,cz2c,cz6a,cz6b,cz6c,cz7a,cz7b,cz7c,ea,j1,j2,j3,s2,cb2,lE']
  have e:gm v x={ v with entities:=v.entities++[x] }:=by rw[gm,if_neg hf]
  have e2:jL v=IntKind.i64.wrap (((v.entities.length+1:Nat):Int)-1):=by rw[jL,if_neg hf,fo (by omega) (by omega)];omega
  rw[e,e2]
  have o2:=o.Gd (G:=fm) (es':=v.entities++[x]) (fE':=fE') hb2 ((by simpa using o':b6 H1 v' (.sl 12 ((v.entities++[x]).map aq.cd)) fE').frame fun c hc=>r2 c (fun e=>by
    subst e
    rcases hm' c hc with g|g|g
    · exact o.bE g
    · exact(dm c g).2 rfl
    · omega)) nd' hm' dm (by omega) (fun c h1 h2 h3 h4=>by rw[r2 c h3,hf' c h1 h4])
  have fin:gg H b (fun c=>c∈eL fE f2 fL f4∨c∈fm) H2 { v with entities:=v.entities++[x] }:=o2.up (by omega) (fun c hc=>by
    rcases aN.1 hc with g|g|g|g
    · rcases hm' c g with q|q|q
      · exact .inl (.inl (aN.2 (.inl q)))
      · exact .inl (.inr q)
      · exact .inr q
    · exact .inl (.inl (aN.2 (.inr (.inl g))))
    · exact .inl (.inl (aN.2 (.inr (.inr (.inl g)))))
    · exact .inl (.inl (aN.2 (.inr (.inr (.inr g)))))) (fun c h1 h2 h3=>by rw[r2 c h2,hf' c (fun h=>h1 (.inl (aN.2 (.inl h)))) h3])
  first|exact⟨rfl,rfl,fin⟩|exact⟨rfl,fin⟩|exact fin
set_option maxHeartbeats 1000000 in
theorem Ja(v:ar)(hL:v.links.length≤1048576)(ho:v.out.length≤1048576)(to_:Int)(m:bm)(H:AH){b:Nat}{f:List Nat}(a:kt H b v f){am:List AV}{fm:List Nat}(om:aG H am m.cd fm)(nm:fm.Nodup)(dm:∀c∈fm,c∉f∧c≠b):
    T Tryz.prog Γ Fn.Pd [.gp b 0 0,.int .i64 to_,.agg am] H fun r H'=>r=.tup []∧gg H b (fun c=>c∈f∨c∈fm) H' (fF v to_ m):=by
  obtain⟨wE,w2,wL,w4,fE,f2,fL,f4,rfl,o⟩:=a
  have hb:=o.hb
  have bf:=o.bf
  have blt:=o.blt
  have vlt:=o.lt
  have cb:∀(e:List AV) (L:List (List AV)) (off n:Nat),(St.mk e L H).cells (.gp b 0 off) n=sub [.int .i64 v.id,wE,w2,wL,w4] off n:=fun e L off n=>bp hb
  obtain⟨a1,a2,a3,a4⟩:=o.oE.cell
  obtain⟨b1,b2,b3,b4⟩:=o.o2.cell
  obtain⟨c1,c2,c3,c4⟩:=o.oL.cell
  obtain⟨d1,d2,d3,d4⟩:=o.o4.cell
  obtain⟨_,lE⟩:=cP o.oE
  rw[List.length_map]at lE
  have oo:=om
  simp only[bm.cd,fW,fN,gB,iH,iv]at oo
  obtain⟨_,_,_,_,rfl,_,⟨rfl,rfl⟩,⟨_,_,_,_,rfl,_,⟨rfl,rfl⟩,⟨_,_,_,_,rfl,_,⟨rfl,rfl⟩,⟨_,_,_,_,rfl,_,⟨rfl,rfl⟩,⟨_,_,_,_,rfl,_,⟨rfl,rfl⟩,⟨az5,_,_,_,rfl,_,uz5,⟨_,_,_,_,rfl,_,⟨rfl,rfl⟩,⟨_,_,_,_,rfl,_,⟨rfl,rfl⟩,⟨_,_,_,_,rfl,_,⟨rfl,rfl⟩,⟨_,_,_,_,rfl,_,⟨rfl,rfl⟩,⟨_,_,_,_,rfl,_,⟨rfl,rfl⟩,⟨_,_,_,_,rfl,_,⟨rfl,rfl⟩,⟨rfl,_⟩⟩⟩⟩⟩⟩⟩⟩⟩⟩⟩⟩⟩:=oo
  obtain⟨cz5a,cz5b,cz5c,cz5d⟩:=uz5.cell
  refine MS (au aC aD [] _ _ _ ?_)
  unfold Gq
  simp only[EZ,ag,Nat.reduceAdd,Nat.reduceBEq,BI,sZ,aE,cb]
  refine al.ref (by simp only[EO]) (xI v hL to_ H hb o.own o.nodup) ?_
  rintro rl H0 ⟨⟨N0,hN⟩,hlk⟩
  replace hN:H0=H++N0:=hN
  obtain⟨HH,hHH⟩:∃HH,HH=H++N0:=⟨_,rfl⟩
  have lHH:H.length≤HH.length:=by rw[hHH];simp
  have fHH:∀c,c<H.length→HH[c]? = H[c]?:=fun c hc=>by rw[hHH,List.getElem?_append_left hc]
  have o0:VO HH b v wE w2 wL w4 fE f2 fL f4:=o.frame fun c hc=>fHH c (by rcases hc with g|g;exact vlt c g;rw[g];exact blt)
  have conv:∀H' v',gg HH b (fun c=>c∈eL fE f2 fL f4∨c∈fm) H' v'→gg H b (fun c=>c∈eL fE f2 fL f4∨c∈fm) H' v':=fun H' v' u=>gg.trans (f1:=eL fE f2 fL f4) lHH (fun c hc=>.inl (.inl hc)) (fun c _ _ hl=>fHH c hl) u (fun c hc=>hc.elim .inl fun h=>.inr (.inl (.inr h)))
  replace om:=om.frame (h':=HH) fun c hc=>fHH c (om.lt c hc)
  clear cb
  rw[←hHH]at hN
  subst hN
  have hb0:=o0.hb
  have cb:∀(e:List AV) (L:List (List AV)) (off n:Nat),(St.mk e L H0).cells (.gp b 0 off) n=sub [.int .i64 v.id,wE,w2,wL,w4] off n:=fun e L off n=>bp hb0
  replace blt:=o0.blt
  replace vlt:=o0.lt
  replace hb:=hb0
  clear o
  have o:=o0
  cases hu:su v.links to_
  · rcases hlk with⟨g,_⟩|⟨_,rfl⟩
    · rw[hu]at g;cases g
    simp only[EZ,ag,Nat.reduceAdd,Nat.reduceBEq,BI,sZ,aE]
    have e:fF v to_ m=v:=by rw[fF,hu];rfl
    rw[e]
    first|exact⟨rfl,rfl,conv _ _ (gg.refl o.at fun c hc=>.inl hc)⟩|exact⟨rfl,conv _ _ (gg.refl o.at fun c hc=>.inl hc)⟩|exact conv _ _ (gg.refl o.at fun c hc=>.inl hc)
  rcases hlk with⟨_,k,hk,_,ik⟩|⟨g,_⟩
  rotate_left
  · rw[hu]at g;cases g
  obtain⟨bK,gK,nK,rowK,fK,iK,_⟩:=o.pw hk
  rw[iK]at ik
  injection ik with ik
  subst ik
  have nd2:(f4++fm).Nodup:=List.nodup_append.2 ⟨o.n4,nm,fun x hx y hy e=>(dm y hy).1 (aN.2 (.inr (.inr (.inr (e▸hx)))))⟩
  obtain⟨v',H1,f4',ea,o',nd',hf',hl',hm'⟩:=cY (bytes:=128) o.o4 nd2 (by omega) rfl (aG.i (k:=.i64) (n:=to_) om) (by simp only[List.length_map,aQ];omega)
  obtain⟨j1,j2,j3,j4⟩:=o'.cell
  have hb1:b7 H1 b=some (0,[.int .i64 v.id,wE,w2,wL,w4]):=by rw[bt (hf' b o.b4 blt)];exact hb
  obtain⟨H2,s2,hb2,l2,r2⟩:=qT hb1 (i:=4) (w:=v') (by simp) j3
  simp only[EZ,ag,Nat.reduceAdd,Nat.reduceBEq,BI,sZ,EA,aE,gZ,qH,qO,qh,cb,cz5a,cz5b,cz5c,ea,j1,j2,j3,s2]
  have e:fF v to_ m={ v with out:=v.out++[⟨to_,m⟩] }:=by rw[fF,hu];rfl
  rw[e]
  have o2:=o.Mn (G:=fm) (l':=v.out++[⟨to_,m⟩]) (f4':=f4') hb2 ((by rw[List.map_append];exact o':b6 H1 v' (.sl 13 ((v.out++[(⟨to_,m⟩:aJ)]).map aJ.cd)) f4').frame fun c hc=>r2 c (fun e=>by
    subst e
    rcases hm' c hc with g|g|g
    · exact o.b4 g
    · exact(dm c g).2 rfl
    · omega)) nd' hm' dm (by omega) (fun c h1 h2 h3 h4=>by rw[r2 c h3,hf' c h1 h4])
  have fin:gg H0 b (fun c=>c∈eL fE f2 fL f4∨c∈fm) H2 { v with out:=v.out++[⟨to_,m⟩] }:=o2.up (by omega) (fun c hc=>by
    rcases aN.1 hc with g|g|g|g
    · exact .inl (.inl (aN.2 (.inl g)))
    · exact .inl (.inl (aN.2 (.inr (.inl g))))
    · exact .inl (.inl (aN.2 (.inr (.inr (.inl g)))))
    · rcases hm' c g with q|q|q
      · exact .inl (.inl (aN.2 (.inr (.inr (.inr q)))))
      · exact .inl (.inr q)
      · exact .inr q) (fun c h1 h2 h3=>by rw[r2 c h2,hf' c (fun h=>h1 (.inl (aN.2 (.inr (.inr (.inr h)))))) h3])
  replace fin:=conv _ _ fin
  first|exact⟨rfl,rfl,fin⟩|exact⟨rfl,fin⟩|exact fin
end Go.Proofs.YtccjhmhkfnnmaaaGreat
namespace Go.Proofs.YtccjhmhkfnnmaaaGreat
open Go.AM
variable {Γ:bY}
theorem HR{v:ar}{H:AH}{b:Nat}{wE w2 wL w4:AV}{fE f2 fL f4:List Nat}(o:VO H b v wE w2 wL w4 fE f2 fL f4){k:Nat}(hk:k<v.links.length)(hl:v.links[k].exports.length≤1048576){r:AV}(ir:dV 7 wL (k:Int)=some r)(n:Int):
    T Tryz.prog Γ Fn.RG [r,.int .i64 n] H fun w H'=>w=.int .i64 (eO v.links[k] n).2∧ue H b wE w2 wL w4 fE f2 fL f4 H' { v with links:=v.links.set k (eO v.links[k] n).1 }:=by
  have vlt:=o.lt
  have bf:=o.bf
  have blt:=o.blt
  have hb:=o.hb
  have hkm:k<(v.links.map aB.cd).length:=by simpa using hk
  obtain⟨bL,gL,pre,rowL,post,fL0,iL,mL,lL,oLr,nLr,sLr,bmL,bnL,close⟩:=o.oL.j9 o.nL hkm
  rw[List.getElem_map]at oLr
  rw[ir]at iL
  injection iL with iL
  subst iL
  have hfL:∀c∈fL,c<H.length:=fun c hc=>vlt c (aN.2 (.inr (.inr (.inl hc))))
  refine(M8 v.links[k] hl n H mL oLr nLr bnL).mono ?_
  rintro w H5 ⟨rfl,l5,row',f',m5,o5,n',b',r5⟩
  obtain⟨fL',oL5,nL5,mL5⟩:=close H5 _ _ f' o5 n' rfl (fun c hc=>(b' c hc).imp id fun g hm=>by have:=hfL c hm;omega) m5 (fun c hc hcf hcb=>r5 c hcf hcb (hfL c hc))
  have fr:∀c,c∉fL→c<H.length→H5[c]? = H[c]?:=fun c h1 h2=>r5 c (fun h=>h1 (sLr c h)) (fun e=>h1 (e▸bmL)) h2
  have hb5:b7 H5 b=some (0,[.int .i64 v.id,wE,w2,wL,w4]):=by
    rw[bt (fr b (fun h=>bf (aN.2 (.inr (.inr (.inl h))))) blt)];exact hb
  rw[←List.map_set]at oL5
  have mf:∀c∈fL',c∈fL∨H.length≤c:=fun c hc=>by
    rcases mL5 c hc with g|g
    · exact .inl g
    · exact(b' c g).imp (sLr c) id
  exact⟨rfl,fL',o.Gj (G:=[]) hb5 oL5 nL5 (fun c hc=>(mf c hc).imp id .inr) (fun c hc=>by simp at hc) l5 (fun c h1 h2 h3 h4=>fr c h1 h4),l5,mf,fr⟩
theorem MR{v:ar}{H:AH}{b:Nat}{wE w2 wL w4:AV}{fE f2 fL f4:List Nat}(o:VO H b v wE w2 wL w4 fE f2 fL f4){k:Nat}(hk:k<v.links.length)(hl:v.links[k].questions.length≤1048576){r:AV}(ir:dV 7 wL (k:Int)=some r)(n:Int):
    T Tryz.prog Γ Fn.RX [r,.int .i64 n] H fun w H'=>w=.int .i64 (g7 v.links[k] n).2∧ue H b wE w2 wL w4 fE f2 fL f4 H' { v with links:=v.links.set k (g7 v.links[k] n).1 }:=by
  have vlt:=o.lt
  have bf:=o.bf
  have blt:=o.blt
  have hb:=o.hb
  have hkm:k<(v.links.map aB.cd).length:=by simpa using hk
  obtain⟨bL,gL,pre,rowL,post,fL0,iL,mL,lL,oLr,nLr,sLr,bmL,bnL,close⟩:=o.oL.j9 o.nL hkm
  rw[List.getElem_map]at oLr
  rw[ir]at iL
  injection iL with iL
  subst iL
  have hfL:∀c∈fL,c<H.length:=fun c hc=>vlt c (aN.2 (.inr (.inr (.inl hc))))
  refine(P6 v.links[k] hl n H mL oLr nLr bnL).mono ?_
  rintro w H5 ⟨rfl,l5,row',f',m5,o5,n',b',r5⟩
  obtain⟨fL',oL5,nL5,mL5⟩:=close H5 _ _ f' o5 n' rfl (fun c hc=>(b' c hc).imp id fun g hm=>by have:=hfL c hm;omega) m5 (fun c hc hcf hcb=>r5 c hcf hcb (hfL c hc))
  have fr:∀c,c∉fL→c<H.length→H5[c]? = H[c]?:=fun c h1 h2=>r5 c (fun h=>h1 (sLr c h)) (fun e=>h1 (e▸bmL)) h2
  have hb5:b7 H5 b=some (0,[.int .i64 v.id,wE,w2,wL,w4]):=by
    rw[bt (fr b (fun h=>bf (aN.2 (.inr (.inr (.inl h))))) blt)];exact hb
  rw[←List.map_set]at oL5
  have mf:∀c∈fL',c∈fL∨H.length≤c:=fun c hc=>by
    rcases mL5 c hc with g|g
    · exact .inl g
    · exact(b' c g).imp (sLr c) id
  exact⟨rfl,fL',o.Gj (G:=[]) hb5 oL5 nL5 (fun c hc=>(mf c hc).imp id .inr) (fun c hc=>by simp at hc) l5 (fun c h1 h2 h3 h4=>fr c h1 h4),l5,mf,fr⟩
theorem ue.back{H H0 H':AH}{b:Nat}{v':ar}{wE w2 wL w4:AV}{fE f2 fL f4:List Nat}(hl:H.length≤H0.length)(hf:∀c,c<H.length→H0[c]? = H[c]?)(u:ue H0 b wE w2 wL w4 fE f2 fL f4 H' v'):ue H b wE w2 wL w4 fE f2 fL f4 H' v':=by
  obtain⟨fL',o,l,m,r⟩:=u
  exact⟨fL',o,by omega,fun c hc=>(m c hc).imp id fun h=>by omega,fun c h1 h2=>by rw[r c h1 (by omega),hf c h2]⟩
set_option maxHeartbeats 4000000 in
set_option maxRecDepth 100000 in
theorem MC(v:ar)(hE:v.entities.length≤1048576)(hL:v.links.length≤1048576)(hlk:∀l∈v.links,l.ok 1048576)(peer:Int)(x:ae)(H:AH){b:Nat}{wE w2 wL w4:AV}{fE f2 fL f4:List Nat}(o:VO H b v wE w2 wL w4 fE f2 fL f4):
    T Tryz.prog Γ Fn.MN [.gp b 0 0,.int .i64 peer,.agg (x.c false)] H fun r H'=>r=.agg ((bJ v peer x).2.c false)∧ue H b wE w2 wL w4 fE f2 fL f4 H' (bJ v peer x).1:=by
  have hb:=o.hb
  have vlt:=o.lt
  have blt:=o.blt
  obtain⟨y,hy⟩:∃y,y=cg v x:=⟨_,rfl⟩
  have tw:bJ v peer x=bJ v peer x:=rfl
  conv at tw=>rhs;unfold bJ
  simp only[←hy]at tw
  refine Rh (au aC aD [] _ _ _ ?_)
  unfold Kk
  simp only[EZ,ag,Nat.reduceAdd,Nat.reduceBEq,jT,aE,aO,ER,EF,ae.c]
  refine al.fV (by simp only[EO]) (aK (pz o) (aK (.same _) b8)) (fun h=>zO true v hE x h (Ptr.ip h true _)) (.agg _ (by intro z hz;simp only[ae.c,List.mem_cons,List.not_mem_nil,or_false]at hz;rcases hz with rfl|rfl<;>exact .int _ _)) ?_
  rw[←hy]
  simp only[EZ,ag,Nat.reduceAdd,Nat.reduceBEq,jT,aE,aO,ER,EF,ae.c]
  refine al.ref (by simp only[EO]) (xI v hL peer H hb o.own o.nodup) ?_
  rintro rl H0 ⟨⟨N0,hN⟩,hlk2⟩
  replace hN:H0=H++N0:=hN
  have lHH:H.length≤H0.length:=by rw[hN];simp
  have fHH:∀c,c<H.length→H0[c]? = H[c]?:=fun c hc=>by rw[hN,List.getElem?_append_left hc]
  have o0:VO H0 b v wE w2 wL w4 fE f2 fL f4:=o.frame fun c hc=>fHH c (by rcases hc with g|g;exact vlt c g;rw[g];exact blt)
  have back:=fun H' v' (u:ue H0 b wE w2 wL w4 fE f2 fL f4 H' v')=>ue.back lHH fHH u
  have triv:=back H0 v (ue.refl o0)
  have triv3:∀(w:bW),(bJ v peer x)=(v,w)→AV.agg [.int .i64 w.kind,.int .i64 w.n]=.agg ((bJ v peer x).2.c false)∧ue H b wE w2 wL w4 fE f2 fL f4 H0 (bJ v peer x).1:=fun w e=>by rw[e];exact⟨rfl,triv⟩
  cases t1:(decide (y.kind=0) && rO y.n 0 999999)
  rotate_left
  · rw[t1,if_pos rfl]at tw
    have fin:=triv3 _ tw
    simp only[EZ,ag,Nat.reduceAdd,Nat.reduceBEq,jT,aE,aO,ER,EF,EA,ae.c,bW.c,an,ah]
    refine al.val (by simp only[EO]) (Ii false y _) ?_
    rw[t1]
    simp only[EZ,ag,Nat.reduceAdd,Nat.reduceBEq,jT,aE,aO,ER,EF,EA,ae.c,bW.c,an,ah]
    first|exact⟨rfl,fin⟩|exact⟨rfl,fin.1,fin.2⟩|trace_state
  rw[t1]at tw
  simp only[Bool.false_eq_true,if_false]at tw
  simp only[EZ,ag,Nat.reduceAdd,Nat.reduceBEq,jT,aE,aO,ER,EF,EA,ae.c,bW.c,an,ah]
  refine al.val (by simp only[EO]) (Ii false y _) ?_
  rw[t1]
  by_cases k1:y.kind=1
  rotate_left
  · rw[decide_eq_false k1]at tw
    simp only[Bool.false_and,Bool.false_eq_true,if_false]at tw
    have fin:=triv3 _ tw
    simp only[EZ,ag,Nat.reduceAdd,Nat.reduceBEq,jT,aE,aO,ER,EF,EA,ae.c,bW.c,an,ah,decide_eq_false k1]
    first|exact⟨rfl,fin⟩|exact⟨rfl,fin.1,fin.2⟩|trace_state
  rw[decide_eq_true k1]at tw
  rcases hlk2 with⟨hup,j,hj,ej,ik⟩|⟨hup,rfl⟩
  rotate_left
  · rw[hup]at tw
    simp only[Bool.and_false,Bool.false_eq_true,if_false]at tw
    have fin:=triv3 _ tw
    simp only[EZ,ag,Nat.reduceAdd,Nat.reduceBEq,jT,aE,aO,ER,EF,EA,ae.c,bW.c,an,ah,decide_eq_true k1]
    first|exact⟨rfl,fin⟩|exact⟨rfl,fin.1,fin.2⟩|trace_state
  obtain⟨bK,gK,nK,rowK,fK,iK,_⟩:=o0.pw hj
  have ik0:=ik
  rw[iK]at ik;injection ik with ik;subst ik
  rw[hup]at tw
  simp only[EZ,ag,Nat.reduceAdd,Nat.reduceBEq,jT,aE,aO,ER,EF,EA,ae.c,bW.c,an,ah,decide_eq_true k1]
  refine al.ref (by simp only[EO]) (vt hE y.n o0) ?_
  rintro r h' ⟨⟨e1,i1⟩|⟨e1,rfl⟩,e⟩
  rotate_left
  · replace e:h'=H0:=e
    subst e
    rw[e1]at tw
    simp only[Bool.false_and,Bool.and_false,Bool.false_eq_true,if_false]at tw
    have fin:=triv3 _ tw
    simp only[EZ,ag,Nat.reduceAdd,Nat.reduceBEq,jT,aE,aO,ER,EF,EA,ae.c,bW.c,an,ah]
    first|exact⟨rfl,fin⟩|exact⟨rfl,fin.1,fin.2⟩|trace_state
  replace e:h'=H0:=e
  subst e
  rw[e1]at tw
  simp only[Bool.and_self,Bool.true_and,if_true]at tw
  obtain⟨k,hk,ek,_,eA⟩:=cm e1
  obtain⟨bR,gR,nR,row,fR,iR,rR,lR,oR,nfR,_,_,_,wrR⟩:=o0.gG hk
  rw[←ek,i1]at iR
  injection iR with iR
  subst iR
  rw[←eA]at oR
  obtain⟨ee,hee⟩:∃ee,ee=aA v y.n:=⟨_,rfl⟩
  rw[←hee]at oR
  have hge:v.entities.getD y.n.toNat default=ee:=by rw[hee];rfl
  rw[hge]at tw
  obtain⟨rd,_⟩:=wrR h' 0 [] ee fR [] (Nat.le_refl _) (fun c hc=>by cases hc) (fun _ _ _ _=>rfl) (by simp) rfl (by
    have:cD row 0 []=row:=by simp[cD]
    rw[this];exact oR) nfR (fun c hc=>.inl hc)
  obtain⟨wS,wQ,wA,fS,fQ,fA,rfl,_,oS,oQ,oA⟩:=cX oR
  have rd0:∀(e:List AV) (L:List (List AV)),(St.mk e L h').cells (.gp bR gR (nR+0)) 1=some [.int .i64 ee.kind]:=fun e L=>(rd e L 0 1).resolve_right (by omega)
  have rd0':∀(e:List AV) (L:List (List AV)),(St.mk e L h').cells (.gp bR gR nR) 1=some [.int .i64 ee.kind]:=rd0
  have rd8:∀(e:List AV) (L:List (List AV)),(St.mk e L h').cells (.gp bR gR (nR+8)) 1=some [.int .i64 ee.peer]:=fun e L=>(rd e L 8 1).resolve_right (by omega)
  have rd9:∀(e:List AV) (L:List (List AV)),(St.mk e L h').cells (.gp bR gR (nR+9)) 1=some [.int .i64 ee.pos]:=fun e L=>(rd e L 9 1).resolve_right (by omega)
  by_cases q:ee.kind=3∧ee.peer=peer
  · rw[decide_eq_true q.1,decide_eq_true q.2]at tw
    simp only[Bool.and_self,if_true]at tw
    have fin:=triv3 _ tw
    simp only[EZ,ag,Nat.reduceAdd,Nat.reduceBEq,jT,aE,aO,ER,EF,EA,ae.c,bW.c,an,ah,rd0,rd0',rd8,rd9,decide_eq_true q.1,decide_eq_true q.2]
    first|exact⟨rfl,fin⟩|exact⟨rfl,fin.1,fin.2⟩|trace_state
  have q':(decide (ee.kind=3) && decide (ee.peer=peer))=false:=by
    by_cases q1:ee.kind=3
    · rw[decide_eq_false (fun h=>q ⟨q1,h⟩)];simp
    · rw[decide_eq_false q1];simp
  rw[q']at tw
  simp only[Bool.false_eq_true,if_false]at tw
  have hgl:v.links.getD j default=v.links[j]:=by rw[List.getD_eq_getElem?_getD,List.getElem?_eq_getElem hj];rfl
  rw[ej,Int.toNat_natCast,hgl]at tw
  by_cases q1:ee.kind=3
  · have q2:¬ee.peer=peer:=fun h=>q ⟨q1,h⟩
    simp only[EZ,ag,Nat.reduceAdd,Nat.reduceBEq,jT,aE,aO,ER,EF,EA,ae.c,bW.c,an,ah,rd0,rd0',rd8,rd9,decide_eq_true q1,decide_eq_false q2]
    refine al.ref (by simp only[EO]) (HR o0 hj (hlk _ (List.getElem_mem hj)).1 ik0 y.n) ?_
    rintro _ H5 ⟨rfl,u⟩
    have fin:=back _ _ u
    rw[tw]
    simp only[EZ,ag,Nat.reduceAdd,Nat.reduceBEq,jT,aE,aO,ER,EF,EA,ae.c,bW.c,an,ah]
    first|exact⟨rfl,rfl,fin⟩|exact⟨rfl,fin⟩|exact⟨by simp only[EO],rfl,fin⟩|trace_state
  · simp only[EZ,ag,Nat.reduceAdd,Nat.reduceBEq,jT,aE,aO,ER,EF,EA,ae.c,bW.c,an,ah,rd0,rd0',rd8,rd9,decide_eq_false q1]
    refine al.ref (by simp only[EO]) (HR o0 hj (hlk _ (List.getElem_mem hj)).1 ik0 y.n) ?_
    rintro _ H5 ⟨rfl,u⟩
    have fin:=back _ _ u
    rw[tw]
    simp only[EZ,ag,Nat.reduceAdd,Nat.reduceBEq,jT,aE,aO,ER,EF,EA,ae.c,bW.c,an,ah]
    first|exact⟨rfl,rfl,fin⟩|exact⟨rfl,fin⟩|exact⟨by simp only[EO],rfl,fin⟩|trace_state
end Go.Proofs.YtccjhmhkfnnmaaaGreat
namespace Go.Proofs.YtccjhmhkfnnmaaaGreat
open Go.AM
variable {Γ:bY}
set_option maxRecDepth 100000 in
set_option maxHeartbeats 4000000 in
theorem Mb(v:ar)(hE:v.entities.length≤1048576)(hL:v.links.length≤1048576){N:Nat}(hlk:BV N v)(peer:Int)(l:List ae)(hN:N+l.length≤1048576)(H:AH){b:Nat}{wE w2 wL w4:AV}{fE f2 fL f4:List Nat}(o:VO H b v wE w2 wL w4 fE f2 fL f4){wa:AV}{fa:List Nat}(oa:b6 H wa (.sl 2 (l.map ae.cd)) fa)(na:fa.Nodup)(da:∀c∈fa,c∉fL):
    T Tryz.prog Γ Fn.Sh [.gp b 0 0,.int .i64 peer,wa] H fun r H'=>∃fL' fw,VO H' b (aL v peer l).1 wE w2 wL w4 fE f2 fL' f4∧b6 H' r (.sl 2 ((aL v peer l).2.map bW.cd)) fw∧fw.Nodup∧H.length≤H'.length∧(∀c∈fL',c∈fL∨H.length≤c)∧(∀c∈fw,H.length≤c∧c∉fL')∧(∀c,c∉fL→c<H.length→H'[c]? = H[c]?):=by
  have LA:=(cP oa).2
  rw[List.length_map]at LA
  have q1:=o.lt
  have q2:=o.blt
  refine P2 (au aC aD [] _ _ _ ?_)
  unfold Iq
  obtain⟨ga1,ga2,ga3,ga4⟩:=oa.cell
  simp only[EZ,ag,Nat.reduceAdd,Nat.reduceBEq,uW,EA,LA,ga1,ga2,ga3]
  refine et aC aD [] (fun x:Nat×AV×AH×List Nat×List Nat×List (List AV)=>x.1≤l.length∧VO x.2.2.1 b (aL v peer (l.take x.1)).1 wE w2 wL w4 fE f2 x.2.2.2.1 f4∧b6 x.2.2.1 x.2.1 (.sl 2 ((aL v peer (l.take x.1)).2.map bW.cd)) x.2.2.2.2.1∧x.2.2.2.2.1.Nodup∧H.length≤x.2.2.1.length∧(∀c∈x.2.2.2.1,c∈fL∨H.length≤c)∧(∀c∈x.2.2.2.2.1,H.length≤c∧c∉x.2.2.2.1)∧(∀c,c∉fL→c<H.length→x.2.2.1[c]? = H[c]?)) (fun x=>l.length-x.1)
    (fun x=>yp (.gp b 0 0) (.int .i64 peer) x.2.1 wa (.int .i64 l.length) (.int .i64 x.1) x.2.2.2.2.2 x.2.2.1) (0,.gs H.length 0 0 0 0 2 true,H++[some (0,[])],fL,[H.length],[])
    ⟨by simp,o.frame fun c hc=>List.getElem?_append_left (by rcases hc with g|g;exact q1 c g;rw[g];exact q2),dI H 2,by simp,by simp,fun c hc=>.inl hc,fun c hc=>by rw[List.mem_singleton.1 hc];exact⟨Nat.le_refl _,fun g=>by have:=q1 _ (aN.2 (.inr (.inr (.inl g))));omega⟩,fun c _ h=>List.getElem?_append_left h⟩ ⟨by simp[yp,fY,fO],rfl,rfl⟩ ?_
  rintro⟨k,w,H1,f1,fw,M⟩ ⟨hk,ha,ho,nd,hl1,m1,mw,r1⟩
  simp only at hk ha ho nd hl1 m1 mw r1
  simp only[EZ,ag,Nat.reduceAdd,Nat.reduceBEq,uW,yp,LA]
  refine bP (fun hlt=>?_) (fun hge=>?_)
  rotate_left
  · have hge:k=l.length:=by simp at hge;omega
    subst hge
    rw[List.take_length]at ha ho
    obtain⟨ca,cb,cc,cd⟩:=ho.cell
    simp only[EZ,ag,Nat.reduceAdd,Nat.reduceBEq,uW,ca,cb,cc]
    exact⟨ho.dJ,f1,fw,ha,ho,nd,hl1,m1,mw,r1⟩
  have hlt:k<l.length:=by simpa using hlt
  have oa1:b6 H1 wa (.sl 2 (l.map ae.cd)) fa:=oa.frame fun c hc=>r1 c (da c hc) (oa.lt c hc)
  obtain⟨bR,gR,row,fR,iR,_,_,rR,_,oR,_,_,lR⟩:=oa1.row na (k:=k) (by simpa using hlt)
  rw[List.getElem_map]at oR
  obtain⟨x,hx⟩:∃x,x=l[k]:=⟨_,rfl⟩
  rw[←hx]at oR
  simp only[ae.cd,fW,fN,gB]at oR
  obtain⟨_,_,_,_,rfl,rfl,⟨rfl,rfl⟩,⟨_,_,_,_,rfl,rfl,⟨rfl,rfl⟩,⟨rfl,rfl⟩⟩⟩:=oR
  have te:=hM peer (l.take k) v
  have hk2:(l.take k).length=k:=by rw[List.length_take];exact Nat.min_eq_left hk
  have to:BV 1048576 (aL v peer (l.take k)).1:=(nc peer (l.take k) hlk).mono (by rw[hk2];omega)
  have ts:aL v peer (l.take (k+1))=((bJ (aL v peer (l.take k)).1 peer x).1,(aL v peer (l.take k)).2++[(bJ (aL v peer (l.take k)).1 peer x).2]):=by
    rw[List.take_succ_eq_append_getElem hlt,←hx,kq]
  have tl:=jE peer (l.take k) v
  obtain⟨vk,hvk⟩:∃vk,vk=(aL v peer (l.take k)).1:=⟨_,rfl⟩
  obtain⟨wk,hwk⟩:∃wk,wk=(aL v peer (l.take k)).2:=⟨_,rfl⟩
  rw[←hvk]at ha te to ts
  rw[←hwk]at ho ts tl
  obtain⟨ca,cb,cc,cd⟩:=ho.cell
  simp only[EZ,ag,Nat.reduceAdd,Nat.reduceBEq,uW,iR,rR,ca,cb,cc]
  refine al.ref (by simp only[EO]) (MC vk (by rw[te.1];exact hE) (by rw[te.2];exact hL) to peer x H1 ha) ?_
  rintro r H2 ⟨rfl,f2',a2,l2,m2,r2⟩
  replace a2:VO H2 b _ wE w2 wL w4 fE f2 f2' f4:=a2
  replace l2:H1.length≤H2.length:=l2
  replace r2:∀c,c∉f1→c<H1.length→H2[c]? = H1[c]?:=r2
  obtain⟨y,hy⟩:∃y,y=(bJ vk peer x).2:=⟨_,rfl⟩
  rw[←hy]at ts ⊢
  have o2:b6 H2 w (.sl 2 (wk.map bW.cd)) fw:=ho.frame fun c hc=>r2 c (mw c hc).2 (ho.lt c hc)
  obtain⟨v',H',fp',ea,o',nd',hf',hl',hm'⟩:=cY (bytes:=16) o2 (ys:=[.int .i64 y.kind,.int .i64 y.n]) (row:=[.i .i64 y.kind,.i .i64 y.n]) (f2:=[]) (by simpa using nd) (by omega) rfl (.i (.i .nil)) (by simp only[List.length_map,aQ];omega)
  simp only[EZ,ag,Nat.reduceAdd,Nat.reduceBEq,uW,EA,bW.c,ca,cb,cc,ea]
  have old:∀c∈fw,c∉eL fE f2 f2' f4∧c≠b:=fun c hw=>by
    refine⟨fun h=>?_,fun e=>by have:=(mw c hw).1;omega⟩
    rcases aN.1 h with g|g|g|g
    · have:=q1 c (aN.2 (.inl g));have:=(mw c hw).1;omega
    · have:=q1 c (aN.2 (.inr (.inl g)));have:=(mw c hw).1;omega
    · rcases m2 c g with q|q
      · exact(mw c hw).2 q
      · have:=ho.lt c hw;omega
    · have:=q1 c (aN.2 (.inr (.inr (.inr g))));have:=(mw c hw).1;omega
  have lt2:=a2.lt
  have bt2:=a2.blt
  refine⟨(k+1,v',H',f2',fp',_),⟨hlt,by
      simp only;rw[ts];exact a2.frame fun c hc=>hf' c (fun hw=>by rcases hc with g|g;exact(old c hw).1 g;exact(old c hw).2 g) (by rcases hc with g|g;exact lt2 c g;rw[g];exact bt2),by simp only;rw[ts,List.map_append];exact o',nd',by simp only;omega,fun c hc=>?_,fun c hc=>?_,fun c h1 h3=>?_⟩,by simp only;omega,⟨by rw[wN (by omega)];simp[yp,fY,fO],rfl,rfl⟩⟩
  · rcases m2 c hc with g|g
    · exact m1 c g
    · exact .inr (by omega)
  · rcases hm' c hc with g|g|g
    · exact⟨(mw c g).1,fun h=>(old c g).1 (aN.2 (.inr (.inr (.inl h))))⟩
    · simp at g
    · exact⟨by omega,fun h=>by have:=lt2 c (aN.2 (.inr (.inr (.inl h))));omega⟩
  · simp only
    rw[hf' c (fun g=>by have:=(mw c g).1;omega) (by omega),r2 c (fun g=>by rcases m1 c g with q|q;exact h1 q;omega) (by omega),r1 c h1 h3]
end Go.Proofs.YtccjhmhkfnnmaaaGreat
namespace Go.Proofs.YtccjhmhkfnnmaaaGreat
open Go.AM
variable {Γ:bY}
def ql(v:ar)(p:Int):Prop:=jv v p=true→(aA v p).queue=[]∧(aA v p).askers=[]
def rW(v:ar)(p:Int)(x:ae):ar:=if jv v p=true then iF v p x else v
theorem k8{D:ar→aM→ar}{v:ar}{p:Int}{x:ae}(h:ql v p):fZ D v p x=rW v p x:=by
  unfold fZ rW
  split
  · rename_i hr
    obtain⟨h1,h2⟩:=h hr
    rw[h1,h2];rfl
  · rfl
theorem qk(v:ar)(p:Int):gA v ⟨1,p⟩=jv v p:=by simp[rk,jv]
def Df:C:=(.seq (.regD rm re) (.seq (.regD qY qX) (.seq (.seq (.reg [mV 69 8,mN 70 69,mK 71 0]) (.block 0 (.loop (.seq (.reg [mB 72 .lss 71 70]) (.seq (.cond (.t 72) .skip (.exit 0)) (.seq (.block 1 (.seq (.reg [mX 73 7 69 71,mG 74 7 73,⟨(some 11),none,.alloc [.int .i64 0,.str ⟨#[]⟩,.nils,.int .i64 0,.int .i64 0,.int .i64 0,.int .i64 0]⟩,mS 7 11 74]) (.reg [mV 75 0,mG 76 7 11,mC 77 Fn.Ln [.t 75,.t 76]]))) (.reg [mI 78 .add 71 1,mV 71 78]))))))) (.seq (.reg [mV 79 9,mN 80 79,mK 81 0]) (.block 2 (.loop (.seq (.reg [mB 82 .lss 81 80]) (.seq (.cond (.t 82) .skip (.exit 2)) (.seq (.block 3 (.seq (.reg [mX 83 2 79 81,mG 84 2 83,⟨(some 13),none,.alloc [.int .i64 0,.int .i64 0]⟩,mS 2 13 84]) (.seq (.seq (.reg [mV 85 0,mV 86 0,mG 87 2 7,mC 88 Fn.Fw [.t 86,.t 87],mC 89 Fn.GP [.t 85,.t 88],mV 14 89]) (.seq (.reg [mV 90 14,⟨(some 91),none,.bin .neq (.nilp) (.t 90) (.c (.nilp))⟩]) (.cond (.t 91) (.seq (.regD qz qv) (.exit 3)) .skip))) (.regD qt qI)))) (.reg [mI 114 .add 81 1,mV 81 114]))))))))))
def C7:C:=(.seq (.regD qU qG) (.cond (.t 37) (.reg [mC 38 Fn.HK [],mS 2 7 38]) .skip))
theorem K2:G8=.seq (.reg [mA 5 2]) (.seq (.reg [mV 15 0,mV 16 1,mC 17 Fn.Gm [.t 16],mC 18 Fn.GP [.t 15,.t 17],mV 6 18]) (.seq (.seq (.reg [mV 19 6,⟨(some 20),none,.bin .eql (.nilp) (.t 19) (.c (.nilp))⟩]) (.cond (.t 20) .ret .skip)) (.seq (.reg [mV 21 0,mG 22 2 5,mC 23 Fn.Fw [.t 21,.t 22],⟨(some 7),none,.alloc [.int .i64 0,.int .i64 0]⟩,mS 2 7 23]) (.seq (C7) (Df))))):=rfl
set_option maxHeartbeats 8000000 in
set_option maxRecDepth 100000 in
theorem Oi(v:ar)(p:Int)(x:ae)(hE:v.entities.length≤1048576)(hf:ql v p)(H:AH){b:Nat}{f:List Nat}(a:kt H b v f):
    T Tryz.prog Γ Fn.R6 [.gp b 0 0,.int .i64 p,.agg (x.c false)] H fun r H'=>r=.tup []∧gg H b (fun c=>c∈f) H' (rW v p x):=by
  obtain⟨wE,w2,wL,w4,fE,f2,fL,f4,rfl,o⟩:=a
  have hb:=o.hb
  have blt:=o.blt
  have vlt:=o.lt
  have cb:∀(e:List AV) (L:List (List AV)) (off n:Nat),(St.mk e L H).cells (.gp b 0 off) n=sub [.int .i64 v.id,wE,w2,wL,w4] off n:=fun e L off n=>bp hb
  obtain⟨a1,a2,a3,a4⟩:=o.oE.cell
  obtain⟨_,lE⟩:=cP o.oE
  rw[List.length_map]at lE
  refine Mv (au aC aD [] _ _ _ ?_)
  rw[K2]
  simp only[EZ,ag,Nat.reduceAdd,Nat.reduceBEq,hR,dv,dz,dB,dy,dA,aE,aO,ER,EF,ae.c]
  refine al.val (by simp only[EO]) (xz _ _) ?_
  simp only[EZ,ag,Nat.reduceAdd,Nat.reduceBEq,hR,dv,dz,dB,dy,dA,aE,aO,ER,EF]
  refine al.ref (by simp only[EO,ae.c]) (Oz hE false ⟨1,p⟩ o) ?_
  rintro r h' ⟨⟨e1,i1⟩|⟨e1,rfl⟩,e⟩
  rotate_left
  · replace e:h'=H:=e
    subst e
    rw[qk]at e1
    have nf:rW v p x=v:=by rw[rW,if_neg (by rw[e1];simp)]
    rw[nf]
    simp only[EZ,ag,Nat.reduceAdd,Nat.reduceBEq,hR,dv,dz,dB,dy,dA,aE,aO,ER,EF]
    have fin:gg h' b (fun c=>c∈eL fE f2 fL f4) h' v:=gg.refl o.at fun c hc=>hc
    first|exact⟨rfl,rfl,fin⟩|exact⟨rfl,fin⟩|trace_state
  replace e:h'=H:=e
  subst e
  rw[qk]at e1
  have nf:rW v p x=iF v p x:=by rw[rW,if_pos e1]
  rw[nf]
  obtain⟨hq,ha⟩:=hf e1
  have e1':=e1
  simp only[jv,Bool.and_eq_true]at e1'
  obtain⟨k,hk,ek,ek2,eA⟩:=cm e1'.1
  obtain⟨r0,hr⟩:∃r0,r0=aA v p:=⟨_,rfl⟩
  rw[←hr]at hq ha eA
  obtain⟨bR,gR,pre,row,post,fR,iR,mR,lR,oR,nR,sR,bmR,bnR,wr⟩:=o.ou hk
  have i1':dV 12 wE p=some r:=i1
  rw[←ek,i1']at iR
  injection iR with iR
  subst iR
  rw[←eA]at oR
  obtain⟨wS,wQ,wA,fS,fQ,fA,rfl,rfl,oS,oQ,oA⟩:=cX oR
  rw[hq]at oQ
  rw[ha]at oA
  obtain⟨x1,x2,x3,x4⟩:=oS.cell
  obtain⟨x5,x6,x7,x8⟩:=oQ.cell
  obtain⟨x9,xa,xb,xc⟩:=oA.cell
  obtain⟨_,lQ⟩:=cP oQ
  obtain⟨_,lA⟩:=cP oA
  simp only[List.map_nil,List.length_nil]at lQ lA
  have cR:∀(e:List AV) (L:List (List AV)) (i n:Nat),i+n≤12→(St.mk e L h').cells (.gp bR gR (pre.length+i)) n=sub _ i n:=fun e L i n hi=>mR.cells e L i n hi
  have r6:∀(e:List AV) (L:List (List AV)),(St.mk e L h').cells (.gp bR gR (pre.length+6)) 1=some [wQ]:=fun e L=>cR e L 6 1 (by omega)
  have r7:∀(e:List AV) (L:List (List AV)),(St.mk e L h').cells (.gp bR gR (pre.length+7)) 1=some [wA]:=fun e L=>cR e L 7 1 (by omega)
  obtain⟨y0,hy0⟩:∃y0,y0=cg v x:=⟨_,rfl⟩
  obtain⟨y,hy⟩:∃y,y=pk v p x:=⟨_,rfl⟩
  simp only[EZ,ag,Nat.reduceAdd,Nat.reduceBEq,hR,dv,dz,dB,dy,dA,aE,aO,ER,EF,ae.c]
  refine al.fV (by simp only[EO]) (aK (pz o) (aK (.same _) b8)) (fun h=>zO true v hE x h (Ptr.ip h true _)) (.agg _ (by intro z hz;simp only[ae.c,List.mem_cons,List.not_mem_nil,or_false]at hz;rcases hz with rfl|rfl<;>exact .int _ _)) ?_
  rw[←hy0]
  simp only[EZ,ag,Nat.reduceAdd,Nat.reduceBEq,hR,dv,dz,dB,dy,dA,aE,aO,ER,EF,ae.c]
  have eqV:∀x y:ae,cV .eql (.agg [.int .i64,.int .i64]) (.agg [.int .i64 x.kind,.int .i64 x.n]) (.agg [.int .i64 y.kind,.int .i64 y.n])=some (.bool (decide (x=y))):=fun x y=>by rw[pK];simp only[ae.dec]
  have eqP:∀(x:ae),cV .eql (.agg [.int .i64,.int .i64]) (.agg [.int .i64 x.kind,.int .i64 x.n]) (.agg [.int .i64 1,.int .i64 p])=some (.bool (decide (x=⟨1,p⟩))):=fun x=>eqV x ⟨1,p⟩
  have ey:y=if (gw y0 v.entities.length && !decide (y0=⟨1,p⟩))=true then y0 else aR:=by rw[hy,pk,hy0]
  obtain⟨R2,hR2⟩:∃R:St→Prop,R=fun zst=>∃g:Nat→AV,zst=⟨(List.range 115).map g,([]:List (List AV))++[[.int .i64 x.kind,.int .i64 x.n]]++[[.int .i64 y.kind,.int .i64 y.n]],h'⟩∧(g 0=.gp b 0 0∧g 1=.int .i64 p∧g 6=.gp bR gR pre.length∧g 7=(.lp (([]:List (List AV)).length+1) 0)):=⟨_,rfl⟩
  refine BC R2 ?_ ?_
  · unfold C7
    cases u1:gw y0 v.entities.length
    · have ey':y=aR:=by rw[ey,u1];rfl
      simp only[EZ,ag,Nat.reduceAdd,Nat.reduceBEq,hR,dv,dz,dB,dy,dA,aE,aO,ER,EF,ae.c,cb,a1,a2,a3,lE,eE]
      refine al.val (by simp only[EO]) (B1 false y0 _ hE _) ?_
      rw[u1]
      simp only[EZ,ag,Nat.reduceAdd,Nat.reduceBEq,hR,dv,dz,dB,dy,dA,aE,aO,ER,EF,ae.c,cb,a1,a2,a3,lE,eE]
      refine al.val (by simp only[EO]) (Aj _) ?_
      simp only[EZ,ag,Nat.reduceAdd,Nat.reduceBEq,hR,dv,dz,dB,dy,dA,aE,aO,ER,EF,ae.c,aR,eE]
      rw[ey',aR]at hR2
      (rw[hR2];exact⟨jq _,jM rfl,⟨rfl,rfl,rfl,rfl⟩⟩)
    · by_cases u2:y0=⟨1,p⟩
      · have ey':y=aR:=by rw[ey,u1,decide_eq_true u2];rfl
        simp only[EZ,ag,Nat.reduceAdd,Nat.reduceBEq,hR,dv,dz,dB,dy,dA,aE,aO,ER,EF,ae.c,cb,a1,a2,a3,lE,eE]
        refine al.val (by simp only[EO]) (B1 false y0 _ hE _) ?_
        rw[u1]
        simp only[EZ,ag,Nat.reduceAdd,Nat.reduceBEq,hR,dv,dz,dB,dy,dA,aE,aO,ER,EF,ae.c,cb,a1,a2,a3,lE,eE]
        refine al.val (by simp only[EO]) (xz _ _) ?_
        simp only[EZ,ag,Nat.reduceAdd,Nat.reduceBEq,hR,dv,dz,dB,dy,dA,aE,aO,ER,EF,ae.c,eqP,decide_eq_true u2,eE]
        refine al.val (by simp only[EO]) (Aj _) ?_
        simp only[EZ,ag,Nat.reduceAdd,Nat.reduceBEq,hR,dv,dz,dB,dy,dA,aE,aO,ER,EF,ae.c,aR,eE]
        rw[ey',aR]at hR2
        (rw[hR2];exact⟨jq _,jM rfl,⟨rfl,rfl,rfl,rfl⟩⟩)
      · have ey':y=y0:=by rw[ey,u1,decide_eq_false u2];rfl
        simp only[EZ,ag,Nat.reduceAdd,Nat.reduceBEq,hR,dv,dz,dB,dy,dA,aE,aO,ER,EF,ae.c,cb,a1,a2,a3,lE,eE]
        refine al.val (by simp only[EO]) (B1 false y0 _ hE _) ?_
        rw[u1]
        simp only[EZ,ag,Nat.reduceAdd,Nat.reduceBEq,hR,dv,dz,dB,dy,dA,aE,aO,ER,EF,ae.c,cb,a1,a2,a3,lE,eE]
        refine al.val (by simp only[EO]) (xz _ _) ?_
        simp only[EZ,ag,Nat.reduceAdd,Nat.reduceBEq,hR,dv,dz,dB,dy,dA,aE,aO,ER,EF,ae.c,eqP,decide_eq_false u2,eE]
        rw[ey']at hR2
        (rw[hR2];exact⟨jq _,jM rfl,⟨rfl,rfl,rfl,rfl⟩⟩)
  intro zst hzst
  rw[hR2]at hzst
  clear hR2
  obtain⟨g,rfl,⟨eg0,eg1,eg6,eg7⟩⟩:=hzst
  rw[show(List.range 115).map g=g 0::g 1::g 2::g 3::g 4::g 5::g 6::g 7::g 8::g 9::g 10::g 11::g 12::g 13::g 14::g 15::g 16::g 17::g 18::g 19::g 20::g 21::g 22::g 23::g 24::g 25::g 26::g 27::g 28::g 29::g 30::g 31::g 32::g 33::g 34::g 35::g 36::g 37::g 38::g 39::g 40::g 41::g 42::g 43::g 44::g 45::g 46::g 47::g 48::g 49::g 50::g 51::g 52::g 53::g 54::g 55::g 56::g 57::g 58::g 59::g 60::g 61::g 62::g 63::g 64::g 65::g 66::g 67::g 68::g 69::g 70::g 71::g 72::g 73::g 74::g 75::g 76::g 77::g 78::g 79::g 80::g 81::g 82::g 83::g 84::g 85::g 86::g 87::g 88::g 89::g 90::g 91::g 92::g 93::g 94::g 95::g 96::g 97::g 98::g 99::g 100::g 101::g 102::g 103::g 104::g 105::g 106::g 107::g 108::g 109::g 110::g 111::g 112::g 113::g 114::[] from rfl]
  simp only[eg0,eg1,eg6,eg7]
  unfold Df
  have nX:∀w:AV,bj w=true→[w].all bj=true:=fun w h=>by simp only[List.all_cons,List.all_nil,h];rfl
  obtain⟨H1,s1,m1,l1,f1⟩:=mR.put 3 [.int .i64 2] (by simp) rfl
  obtain⟨H2,s2,m2,l2,f2'⟩:=m1.put 4 [.int .i64 y.kind,.int .i64 y.n] (by simp[cD]) rfl
  obtain⟨H3,s3,m3,l3,f3⟩:=m2.put 6 [.nils] (by simp[cD]) rfl
  obtain⟨H4,s4,m4,l4,f4'⟩:=m3.put 7 [.nils] (by simp[cD]) rfl
  obtain⟨H5,s5,m5,l5,f5⟩:=m4.put 8 [.int .i64 0] (by simp[cD]) rfl
  obtain⟨H6,s6,m6,l6,f6⟩:=m5.put 9 [.int .i64 0] (by simp[cD]) rfl
  obtain⟨H7,s7,m7,l7,f7⟩:=m6.put 10 [.int .i64 0] (by simp[cD]) rfl
  replace m7:kC H7 bR gR pre [.int .i64 r0.kind,.int .i64 r0.script,wS,.int .i64 2,.int .i64 y.kind,.int .i64 y.n,.nils,.nils,.int .i64 0,.int .i64 0,.int .i64 0,.int .i64 r0.sent] post:=m7
  have fr7:∀c,c≠bR→H7[c]? = h'[c]?:=fun c hc=>by rw[f7 c hc,f6 c hc,f5 c hc,f4' c hc,f3 c hc,f2' c hc,f1 c hc]
  have own7:aG H7 [.int .i64 r0.kind,.int .i64 r0.script,wS,.int .i64 2,.int .i64 y.kind,.int .i64 y.n,.nils,.nils,.int .i64 0,.int .i64 0,.int .i64 0,.int .i64 r0.sent] (iV r0 y).cd (fS++([]++[])):=hZ (e:=iV r0 y) (oS.frame fun c hc=>fr7 c (fun e=>bnR (e▸(by simp[hc])))) (.nil 7) (.nil 2)
  obtain⟨fE7,o7,me7⟩:=wr H7 _ (iV r0 y) (fS++([]++[])) [] (by omega) (fun c hc=>by cases hc) m7 own7 (by
    have:=(List.nodup_append.1 nR).1
    simpa using this) (fun c hc=>.inl (by
      have:c∈fS:=by simpa using hc
      simp[this])) (fun c _ _ _ h=>fr7 c h)
  have ev:({ v with entities:=v.entities.set k (iV r0 y) }:ar)=iF v p x:=by rw[iF,fP,←hr,←hy,ek2]
  rw[ev]at o7
  have fin:gg h' b (fun c=>c∈eL fE f2 fL f4) H7 (iF v p x):=o7.up (by omega) (fun c hc=>by
    rcases aN.1 hc with g|g|g|g
    · rcases me7 c g with q|q
      · exact .inl (aN.2 (.inl q.1))
      · exact .inl (aN.2 (.inl (sR c (by
          have:c∈fS:=by simpa using q
          simp[this]))))
    · exact .inl (aN.2 (.inr (.inl g)))
    · exact .inl (aN.2 (.inr (.inr (.inl g))))
    · exact .inl (aN.2 (.inr (.inr (.inr g))))) (fun c h1 h2 h3=>fr7 c (fun e=>h1 (aN.2 (.inl (e▸bmR)))))
  simp only[EZ,ag,Nat.reduceAdd,Nat.reduceBEq,hR,dv,dz,dB,dy,dA,aE,aO,ER,EF,EA,r6,r7,x5,x6,x7,x9,xa,xb,s1,s2,s3,s4,s5,s6,s7,lQ,lA]
  refine⟨fun r hr n cs hc=>by rw[show r=7 by simpa using hr]at hc ⊢;exact hc,?_⟩
  refine et aC aD [] (fun _:Unit=>True) (fun _=>0) (fun _=>Aq (.gp b 0 0) (.lp (([]:List (List AV)).length+1) 0) wA wQ (.int .i64 ((0:Nat):Int)) (.int .i64 0) _ H7) () trivial ⟨by simp[Aq,fY,fO],rfl,rfl⟩ ?_
  rintro _ _
  simp only[EZ,ag,Nat.reduceAdd,Nat.reduceBEq,hR,dv,dz,dB,dy,dA,Aq,aE,aO,ER,EF]
  refine bP (fun hgt=>absurd hgt (by simp)) (fun hge=>?_)
  simp only[EZ,ag,Nat.reduceAdd,Nat.reduceBEq,hR,dv,dz,dB,dy,dA,aE,aO,ER,EF,x9,xa,xb,lA]
  refine et aC aD [] (fun _:Unit=>True) (fun _=>0) (fun _=>AT (.gp b 0 0) (.lp (([]:List (List AV)).length+1) 0) wA (.int .i64 ((0:Nat):Int)) (.int .i64 0) _ H7) () trivial ⟨by simp[AT,fY,fO],rfl,rfl⟩ ?_
  rintro _ _
  simp only[EZ,ag,Nat.reduceAdd,Nat.reduceBEq,hR,dv,dz,dB,dy,dA,AT,aE,aO,ER,EF]
  refine bP (fun hgt=>absurd hgt (by simp)) (fun hge=>?_)
  simp only[EZ,ag,Nat.reduceAdd,Nat.reduceBEq,hR,dv,dz,dB,dy,dA,aE,aO,ER,EF]
  first|exact⟨rfl,rfl,fin⟩|exact⟨rfl,fin⟩|trace_state
theorem Jb(v:ar)(s:aM)(hE:v.entities.length≤1048576)(hf:ql v s.result)(H:AH){b:Nat}{f:List Nat}(a:kt H b v f){am:List AV}{fs:List Nat}(os:aG H am s.cd fs):
    T Tryz.prog Γ Fn.Ir [.gp b 0 0,.agg am] H fun r H'=>r=.tup []∧gg H b (fun c=>c∈f) H' (rW v s.result aR):=by
  obtain⟨wa,rfl,oa⟩:=ig os
  obtain⟨g1,g2,g3,g4⟩:=oa.cell
  refine Q9 (au aC aD [] _ _ _ ?_)
  unfold IK
  simp only[EZ,ag,Nat.reduceAdd,Nat.reduceBEq,BJ,tV,aE,aO,ER,EF,g1,g2,g3]
  refine al.val (by simp only[EO]) (Aj _) ?_
  simp only[EZ,ag,Nat.reduceAdd,Nat.reduceBEq,BJ,tV,aE,aO,ER,EF,g1,g2,g3]
  try refine⟨fun r hr n cs hc=>by rw[show r=5 by simpa using hr]at hc ⊢;exact hc,?_⟩
  refine al.ref (by simp only[EO,ae.c]) (Oi v s.result aR hE hf H a) ?_
  rintro _ H' ⟨rfl,u⟩
  simp only[EZ,ag,Nat.reduceAdd,Nat.reduceBEq,BJ,tV,aE,aO,ER,EF]
  first|exact⟨rfl,rfl,u⟩|exact⟨rfl,u⟩|trace_state
end Go.Proofs.YtccjhmhkfnnmaaaGreat
