import Derived.Test.YtccjhmhkfnnmaaaGreatR6G23
import Derived.Test.YtccjhmhkfnnmaaaGreatAmG12
import Derived.Test.YtccjhmhkfnnmaaaGreatR6G22
import Derived.Test.YtccjhmhkfnnmaaaGreatR6G21
set_option linter.unusedVariables false
set_option linter.unusedSimpArgs false
namespace Go.Proofs.YtccjhmhkfnnmaaaGreat
open Go.AM
variable {Γ:cj}
theorem GI.fI{K:Nat}{v:aA}(g:GI K v){n:Int}(hn:dU n v.entities.length=true)(e:aE)(hw:jB e=jB (aT v n))(hs:e.slots.length≤100∧∀s∈e.queue,s.ok 100):GI K (Go.Proofs.YtccjhmhkfnnmaaaGreat.fI v n.toNat e):=by
  have b1:=nu hn e
  exact⟨j8 g.vi _ _ hs,by have:=g.w;omega,g.lb.fI hn e (by omega),by rw[ie];exact g.ne⟩
set_option maxHeartbeats 8000000 in
set_option maxRecDepth 100000 in
theorem PT{K:Nat}(v:aA)(g:GI K v)(hK:K+1≤1000)(peer:Int)(β:Bool)(m:aB)(hm:m.args.length≤4)(hn:m.name.size≤100)(H:AH){b:Nat}{f:List Nat}(a:js H b v f):
    T Tryz.prog Γ Fn.VE [.gp b 0 0,.int .i64 peer,.agg (m.c β)] H fun r H'=>r=.tup []∧∃v',GI (K+1) v'∧gU H b (fun c=>c∈f) H' v':=by
  have hvi:=g.vi
  have gw:=g.w
  obtain⟨wE,w2,wL,w4,fE,f2,fL,f4,rfl,o⟩:=a
  have hE:v.entities.length≤1048576:=by have:=hvi.ents;omega
  have hL:v.aq.length≤1048576:=by have:=hvi.aq;omega
  have hb:=o.hb
  have blt:=o.blt
  have cb:∀(e:List AV) (L:List (List AV)) (off n:Nat),(St.mk e L H).cells (.gp b 0 off) n=sub [.int .i64 v.id,wE,w2,wL,w4] off n:=fun e L off n=>bk hb
  obtain⟨a1,a2,a3,a4⟩:=o.oE.cell
  obtain⟨b1,b2,b3,b4⟩:=o.o2.cell
  obtain⟨c1,c2,c3,c4⟩:=o.oL.cell
  obtain⟨d1,d2,d3,d4⟩:=o.o4.cell
  have stop:∃v',GI (K+1) v'∧gU H b (fun c=>c∈gB fE f2 fL f4) H v':=⟨v,g.mono (by omega),gU.refl o.at fun c hc=>hc⟩
  refine O2 (aD aJ aK [] _ _ _ ?_)
  unfold Ni
  by_cases k1:m.kind=4
  rotate_left
  · simp only[EZ,ag,Nat.reduceAdd,Nat.reduceBEq,pP,jf,aF,aP,EF,EA,an,ae,aB.c,aV.c,cb,a1,a2,a3,b1,b2,b3,c1,c2,c3,d1,d2,d3,decide_eq_false k1]
    first|exact⟨rfl,stop⟩|exact⟨rfl,rfl,stop⟩|exact stop
  simp only[EZ,ag,Nat.reduceAdd,Nat.reduceBEq,pP,jf,aF,aP,EF,EA,an,ae,aB.c,aV.c,cb,a1,a2,a3,b1,b2,b3,c1,c2,c3,d1,d2,d3,decide_eq_true k1]
  refine ah.ref (by simp only[EO]) (GS β m (by omega) (by omega) _) ?_
  rintro _ H1 ⟨⟨im,rfl⟩,e⟩
  replace e:H1=H:=e
  subst e
  cases im
  · simp only[EZ,ag,Nat.reduceAdd,Nat.reduceBEq,pP,jf,aF,aP,EF,EA,an,ae,aB.c,aV.c,cb,a1,a2,a3,b1,b2,b3,c1,c2,c3,d1,d2,d3]
    first|exact⟨rfl,stop⟩|exact⟨rfl,rfl,stop⟩|exact stop
  simp only[EZ,ag,Nat.reduceAdd,Nat.reduceBEq,pP,jf,aF,aP,EF,EA,an,ae,aB.c,aV.c,cb,a1,a2,a3,b1,b2,b3,c1,c2,c3,d1,d2,d3]
  refine ah.dT (by simp only[EO,a3,b3,c3,d3]) (aI (aO.dT (aA.bM true v) o.own) (aI (.same _) bm)) (fun h=>i6 true v hL peer h) (.bool _) ?_
  cases hu:ki v.aq peer
  · simp only[EZ,ag,Nat.reduceAdd,Nat.reduceBEq,pP,jf,aF,aP,EF,EA,an,ae,aB.c,aV.c,cb,a1,a2,a3,b1,b2,b3,c1,c2,c3,d1,d2,d3]
    first|exact⟨rfl,stop⟩|exact⟨rfl,rfl,stop⟩|exact stop
  simp only[EZ,ag,Nat.reduceAdd,Nat.reduceBEq,pP,jf,aF,aP,EF,EA,an,ae,aB.c,aV.c,cb,a1,a2,a3,b1,b2,b3,c1,c2,c3,d1,d2,d3]
  refine ah.ref (by simp only[EO]) (JB v hvi (by omega) peer hu m.question 4 H1 o.at) ?_
  rintro _ HX ⟨⟨p,rfl,hp⟩,e⟩
  replace e:HX=H1:=e
  subst e
  by_cases hp0:p<0
  · simp only[EZ,ag,Nat.reduceAdd,Nat.reduceBEq,pP,jf,aF,aP,EF,EA,an,ae,aB.c,aV.c,cb,a1,a2,a3,b1,b2,b3,c1,c2,c3,d1,d2,d3,decide_eq_true hp0]
    first|exact⟨rfl,stop⟩|exact⟨rfl,rfl,stop⟩|exact stop
  replace hp:=hp.resolve_left hp0
  obtain⟨j,hj,ej,ej2,ej3⟩:=gg hp
  obtain⟨bS,gS,nS,row2,fT,iS,rS,lS,oS2,nfT,sT,bmS,bnS,wrS⟩:=o.iy hj
  obtain⟨en,hen⟩:∃en,en=v.entities[j]:=⟨_,rfl⟩
  rw[←hen]at oS2
  obtain⟨wS2,wQ2,wA2,fS2,fQ2,fA2,rfl,rfl,oSS,oQQ,oAA⟩:=et oS2
  have iS':eJ 12 wE p=some (.gp bS gS nS):=by rw[ej];exact iS
  have rd4:∀(e:List AV) (L:List (List AV)),(St.mk e L HX).cells (.gp bS gS (nS+4)) 2=some [.int .i64 en.value.kind,.int .i64 en.value.n]:=fun e L=>by
    obtain⟨wrd,_⟩:=wrS HX 3 [.int .i64 en.state] v.entities[j] (fS2++(fQ2++fA2)) [] (Nat.le_refl _) (fun c hc=>by cases hc) (fun _ _ _ _=>rfl) (by simp) rfl (by rw[←hen];exact iQ oSS oQQ oAA) nfT (fun c hc=>.inl hc)
    exact(wrd e L 4 2).resolve_right (by omega)
  simp only[EZ,ag,Nat.reduceAdd,Nat.reduceBEq,pP,jf,aF,aP,EF,EA,an,ae,aB.c,aV.c,cb,a1,a2,a3,b1,b2,b3,c1,c2,c3,d1,d2,d3,decide_eq_false hp0,iS',rd4]
  refine ah.ref (by simp only[EO]) (FW v g hK peer hu m.question p en.value HX o.at) ?_
  rintro _ H5 ⟨rfl,fin⟩
  simp only[EZ,ag,Nat.reduceAdd,Nat.reduceBEq,pP,jf,aF,aP,EF,EA,an,ae,aB.c,aV.c,cb,a1,a2,a3,b1,b2,b3,c1,c2,c3,d1,d2,d3]
  first|exact⟨rfl,fin⟩|exact⟨rfl,rfl,fin⟩|exact fin
set_option maxHeartbeats 8000000 in
set_option maxRecDepth 100000 in
theorem Uh{K:Nat}(v:aA)(g:GI K v)(hK:K+1≤1000)(peer:Int)(β:Bool)(m:aB)(hm:m.args.length≤4)(hn:m.name.size≤100)(H:AH){b:Nat}{f:List Nat}(a:js H b v f):
    T Tryz.prog Γ Fn.Vl [.gp b 0 0,.int .i64 peer,.agg (m.c β)] H fun r H'=>r=.tup []∧∃v',GI (K+1) v'∧gU H b (fun c=>c∈f) H' v':=by
  have hvi:=g.vi
  have gw:=g.w
  obtain⟨wE,w2,wL,w4,fE,f2,fL,f4,rfl,o⟩:=a
  have hE:v.entities.length≤1048576:=by have:=hvi.ents;omega
  have hL:v.aq.length≤1048576:=by have:=hvi.aq;omega
  have hb:=o.hb
  have blt:=o.blt
  have cb:∀(e:List AV) (L:List (List AV)) (off n:Nat),(St.mk e L H).cells (.gp b 0 off) n=sub [.int .i64 v.id,wE,w2,wL,w4] off n:=fun e L off n=>bk hb
  obtain⟨a1,a2,a3,a4⟩:=o.oE.cell
  obtain⟨b1,b2,b3,b4⟩:=o.o2.cell
  obtain⟨c1,c2,c3,c4⟩:=o.oL.cell
  obtain⟨d1,d2,d3,d4⟩:=o.o4.cell
  have stop:∃v',GI (K+1) v'∧gU H b (fun c=>c∈gB fE f2 fL f4) H v':=⟨v,g.mono (by omega),gU.refl o.at fun c hc=>hc⟩
  refine UA (aD aJ aK [] _ _ _ ?_)
  unfold LU
  by_cases k1:m.kind=2
  rotate_left
  · simp only[EZ,ag,Nat.reduceAdd,Nat.reduceBEq,kB,gf,aF,aP,EF,EA,an,ae,aB.c,aV.c,cb,a1,a2,a3,b1,b2,b3,c1,c2,c3,d1,d2,d3,decide_eq_false k1]
    first|exact⟨rfl,stop⟩|exact⟨rfl,rfl,stop⟩|exact stop
  simp only[EZ,ag,Nat.reduceAdd,Nat.reduceBEq,kB,gf,aF,aP,EF,EA,an,ae,aB.c,aV.c,cb,a1,a2,a3,b1,b2,b3,c1,c2,c3,d1,d2,d3,decide_eq_true k1]
  refine ah.ref (by simp only[EO]) (GS β m (by omega) (by omega) _) ?_
  rintro _ H1 ⟨⟨im,rfl⟩,e⟩
  replace e:H1=H:=e
  subst e
  cases im
  · simp only[EZ,ag,Nat.reduceAdd,Nat.reduceBEq,kB,gf,aF,aP,EF,EA,an,ae,aB.c,aV.c,cb,a1,a2,a3,b1,b2,b3,c1,c2,c3,d1,d2,d3]
    first|exact⟨rfl,stop⟩|exact⟨rfl,rfl,stop⟩|exact stop
  simp only[EZ,ag,Nat.reduceAdd,Nat.reduceBEq,kB,gf,aF,aP,EF,EA,an,ae,aB.c,aV.c,cb,a1,a2,a3,b1,b2,b3,c1,c2,c3,d1,d2,d3]
  refine ah.dT (by simp only[EO,a3,b3,c3,d3]) (aI (aO.dT (aA.bM true v) o.own) (aI (.same _) bm)) (fun h=>i6 true v hL peer h) (.bool _) ?_
  cases hu:ki v.aq peer
  · simp only[EZ,ag,Nat.reduceAdd,Nat.reduceBEq,kB,gf,aF,aP,EF,EA,an,ae,aB.c,aV.c,cb,a1,a2,a3,b1,b2,b3,c1,c2,c3,d1,d2,d3]
    first|exact⟨rfl,stop⟩|exact⟨rfl,rfl,stop⟩|exact stop
  simp only[EZ,ag,Nat.reduceAdd,Nat.reduceBEq,kB,gf,aF,aP,EF,EA,an,ae,aB.c,aV.c,cb,a1,a2,a3,b1,b2,b3,c1,c2,c3,d1,d2,d3]
  refine ah.ref (by simp only[EO]) (JB v hvi (by omega) peer hu m.question 3 H1 o.at) ?_
  rintro _ HX ⟨⟨p,rfl,hp⟩,e⟩
  replace e:HX=H1:=e
  subst e
  by_cases hp0:p<0
  · simp only[EZ,ag,Nat.reduceAdd,Nat.reduceBEq,kB,gf,aF,aP,EF,EA,an,ae,aB.c,aV.c,cb,a1,a2,a3,b1,b2,b3,c1,c2,c3,d1,d2,d3,decide_eq_true hp0]
    first|exact⟨rfl,stop⟩|exact⟨rfl,rfl,stop⟩|exact stop
  replace hp:=hp.resolve_left hp0
  simp only[EZ,ag,Nat.reduceAdd,Nat.reduceBEq,kB,gf,aF,aP,EF,EA,an,ae,aB.c,aV.c,cb,a1,a2,a3,b1,b2,b3,c1,c2,c3,d1,d2,d3,decide_eq_false hp0]
  refine ah.ref (by simp only[EO]) (Ln v hvi (by omega) peer β m.value HX o.at) ?_
  rintro _ H2 ⟨v1,x,rfl,F1,f1,a1v,l1,m1,r1⟩
  replace a1v:js H2 b v1 f1:=a1v
  replace l1:HX.length≤H2.length:=l1
  replace r1:∀c,¬(c∈gB fE f2 fL f4)→c≠b→c<HX.length→H2[c]? = HX[c]?:=r1
  have g1:=g.fr F1
  have hu1:ki v1.aq peer=true:=by rw[F1.aq];exact hu
  have hp1:dU p v1.entities.length=true:=by
    have:=F1.len
    simp only[dU,Bool.and_eq_true,decide_eq_true_eq]at hp ⊢;omega
  have finish:∀r H',(r=AV.tup []∧∃v',GI (K+1) v'∧gU H2 b (fun c=>c∈f1) H' v')→r=.tup []∧∃v',GI (K+1) v'∧gU HX b (fun c=>c∈gB fE f2 fL f4) H' v':=fun r H' h=>by
    obtain⟨rfl,v',g',u'⟩:=h
    exact⟨rfl,v',g',gU.trans l1 m1 r1 u' (fun c hc=>.inl hc)⟩
  by_cases k2:m.value.kind=2
  rotate_left
  · simp only[EZ,ag,Nat.reduceAdd,Nat.reduceBEq,kB,gf,aF,aP,EF,EA,an,ae,aB.c,aV.c,cb,a1,a2,a3,b1,b2,b3,c1,c2,c3,d1,d2,d3,decide_eq_false k2,ar.c]
    refine ah.ref (by simp only[EO]) ((FW v1 g1 hK peer hu1 m.question p x H2 a1v).mono finish) ?_
    rintro _ H5 ⟨rfl,fin⟩
    simp only[EZ,ag,Nat.reduceAdd,Nat.reduceBEq,kB,gf,aF,aP,EF,EA,an,ae,aB.c,aV.c,cb,a1,a2,a3,b1,b2,b3,c1,c2,c3,d1,d2,d3]
    first|exact⟨rfl,fin⟩|exact⟨rfl,rfl,fin⟩|exact fin
  obtain⟨j,hj,ej,ej2,ej3⟩:=gg hp1
  obtain⟨uE,u2,uL,u4,gE,g2,gL',g4,rfl,oM⟩:=a1v
  have hbM:=oM.hb
  have cbM:∀(e:List AV) (L:List (List AV)) (off n:Nat),(St.mk e L H2).cells (.gp b 0 off) n=sub [.int .i64 v1.id,uE,u2,uL,u4] off n:=fun e L off n=>bk hbM
  obtain⟨aa1,aa2,aa3,aa4⟩:=oM.oE.cell
  obtain⟨bS,gS,nS,row2,fT,iS,rS,lS,oS2,nfT,sT,bmS,bnS,wrS⟩:=oM.iy hj
  obtain⟨en,hen⟩:∃en,en=v1.entities[j]:=⟨_,rfl⟩
  rw[←hen]at oS2
  obtain⟨wS2,wQ2,wA2,fS2,fQ2,fA2,rfl,rfl,oSS,oQQ,oAA⟩:=et oS2
  have iS':eJ 12 uE p=some (.gp bS gS nS):=by rw[ej];exact iS
  obtain⟨rd,H3,f3,s3,l3,r3,a3v,m3⟩:=wrS H2 3 [.int .i64 4] { en with state:=4 } (fS2++(fQ2++fA2)) [] (Nat.le_refl _) (fun c hc=>by cases hc) (fun _ _ _ _=>rfl) (by simp) rfl (by
    have:=iQ (e:={ en with state:=4 }) oSS oQQ oAA
    exact this) nfT (fun c hc=>.inl hc)
  have rd10:∀(e:List AV) (L:List (List AV)),(St.mk e L H2).cells (.gp bS gS (nS+10)) 1=some [.int .i64 en.count]:=fun e L=>(rd e L 10 1).resolve_right (by omega)
  by_cases kc:0<en.count
  rotate_left
  · simp only[EZ,ag,Nat.reduceAdd,Nat.reduceBEq,kB,gf,aF,aP,EF,EA,an,ae,aB.c,aV.c,cb,a1,a2,a3,b1,b2,b3,c1,c2,c3,d1,d2,d3,decide_eq_true k2,ar.c,cbM,aa1,aa2,aa3,iS',rd10,show decide (en.count>0)=false from decide_eq_false kc]
    refine ah.ref (by simp only[EO]) ((FW v1 g1 hK peer hu1 m.question p x H2 oM.at).mono finish) ?_
    rintro _ H5 ⟨rfl,fin⟩
    simp only[EZ,ag,Nat.reduceAdd,Nat.reduceBEq,kB,gf,aF,aP,EF,EA,an,ae,aB.c,aV.c,cb,a1,a2,a3,b1,b2,b3,c1,c2,c3,d1,d2,d3]
    first|exact⟨rfl,fin⟩|exact⟨rfl,rfl,fin⟩|exact fin
  have eA:aT v1 p=en:=by rw[ej3,hen]
  have gE1:=gj g1.vi p
  rw[eA]at gE1
  have g2':=g1.fI hp1 { en with state:=4 } (by rw[eA];rfl) gE1
  have ev2:({ v1 with entities:=v1.entities.set j { en with state:=4 } }:aA)=fI v1 p.toNat { en with state:=4 }:=by rw[fI,ej2]
  rw[ev2]at a3v
  obtain⟨v2,hv2⟩:∃v2,v2=fI v1 p.toNat { en with state:=4 }:=⟨_,rfl⟩
  have len2:v2.entities.length=v1.entities.length:=by rw[hv2,ie]
  have at2:aT v2 p={ en with state:=4 }:=by
    rw[hv2,aT,fI]
    simp[List.getD_eq_getElem?_getD,ej2,hj]
  rw[←hv2]at a3v g2'
  have hp2:dU p v2.entities.length=true:=by rw[len2];exact hp1
  have up3:gU H2 b (fun c=>c∈gB gE g2 gL' g4) H3 v2:=⟨f3,a3v,by omega,fun c hc=>by
    rcases m3 c hc with⟨s,_⟩|s
    · exact .inl s
    · exact .inl (bU.2 (.inl (sT c s))),fun c h1 _ _=>r3 c (fun e=>h1 (e▸bU.2 (.inl bmS)))⟩
  clear a3v m3 r3
  obtain⟨f3,⟨tE,t2,tL,t4,hE',h2',hL',h4',rfl,oT⟩,l3',m3,r3⟩:=up3
  obtain⟨j',hj',ej',ej2',ej3'⟩:=gg hp2
  obtain⟨bV,gV,nV,rowV,fV,iV,rV,lV,oV,nfV,sV,bmV,bnV,wrV⟩:=oT.iy hj'
  rw[←ej3',at2]at oV
  obtain⟨wS3,wQ3,wA3,fS3,fQ3,fA3,rfl,rfl,oS3,oQ3,oA3⟩:=et oV
  have hbT:=oT.hb
  have cbT:∀(e:List AV) (L:List (List AV)) (off n:Nat),(St.mk e L H3).cells (.gp b 0 off) n=sub [.int .i64 v2.id,tE,t2,tL,t4] off n:=fun e L off n=>bk hbT
  obtain⟨bb1,bb2,bb3,bb4⟩:=oT.oE.cell
  have iV':eJ 12 tE p=some (.gp bV gV nV):=by rw[ej'];exact iV
  obtain⟨_,H4,f4',s4,l4,r4,a4v,m4⟩:=wrV H3 4 [.int .i64 x.kind,.int .i64 x.n] { en with state:=4,value:=x } (fS3++(fQ3++fA3)) [] (Nat.le_refl _) (fun c hc=>by cases hc) (fun _ _ _ _=>rfl) (by simp) rfl (by
    have:=iQ (e:={ en with state:=4,value:=x }) oS3 oQ3 oA3
    exact this) nfV (fun c hc=>.inl hc)
  have g3:=g2'.fI hp2 { en with state:=4,value:=x } (by rw[at2];rfl) gE1
  have ev3:({ v2 with entities:=v2.entities.set j' { en with state:=4,value:=x } }:aA)=fI v2 p.toNat { en with state:=4,value:=x }:=by rw[fI,ej2']
  rw[ev3]at a4v
  obtain⟨v3,hv3⟩:∃v3,v3=fI v2 p.toNat { en with state:=4,value:=x }:=⟨_,rfl⟩
  rw[←hv3]at a4v g3
  have up4:gU H3 b (fun c=>c∈gB hE' h2' hL' h4') H4 v3:=⟨f4',a4v,by omega,fun c hc=>by
    rcases m4 c hc with⟨s,_⟩|s
    · exact .inl s
    · exact .inl (bU.2 (.inl (sV c s))),fun c h1 _ _=>r4 c (fun e=>h1 (e▸bU.2 (.inl bmV)))⟩
  clear a4v m4 r4
  obtain⟨f5,a5v,l5,m5,r5⟩:=gU.trans (F:=fun c=>c∈gB gE g2 gL' g4) l3' m3 r3 up4 (fun c hc=>.inl hc)
  simp only[EZ,ag,Nat.reduceAdd,Nat.reduceBEq,kB,gf,aF,aP,EF,EA,an,ae,aB.c,aV.c,cb,a1,a2,a3,b1,b2,b3,c1,c2,c3,d1,d2,d3,decide_eq_true k2,ar.c,cbM,aa1,aa2,aa3,iS',rd10,show decide (en.count>0)=true from decide_eq_true kc,s3,cbT,bb1,bb2,bb3,iV',s4]
  refine ah.ref rfl (Cm v3 (by have:=g3.vi.aq;omega) (by have:=g3.w;rw[Be]at this;omega) peer (sd 3 m.question) H4 a5v (Ds H4 3 m.question) List.nodup_nil (fun c hc=>by cases hc)) ?_
  rintro _ H6 ⟨rfl,u6⟩
  replace u6:gU H4 b (fun c=>c∈f5∨c∈[]) H6 _:=u6
  have g4':=g3.push peer (sd 3 m.question) ⟨Nat.zero_le _,Nat.zero_le _⟩
  obtain⟨_,fin⟩:=finish (.tup []) H6 ⟨rfl,_,g4',gU.trans l5 m5 r5 u6 (fun c hc=>hc.elim .inl fun h=>by cases h)⟩
  simp only[EZ,ag,Nat.reduceAdd,Nat.reduceBEq,kB,gf,aF,aP,EF,EA,an,ae,aB.c,aV.c,cb,a1,a2,a3,b1,b2,b3,c1,c2,c3,d1,d2,d3]
  first|exact⟨rfl,fin⟩|exact⟨rfl,rfl,fin⟩|exact fin
end Go.Proofs.YtccjhmhkfnnmaaaGreat
namespace Go.Proofs.YtccjhmhkfnnmaaaGreat
open Go.AM
variable {Γ:cj}
set_option maxHeartbeats 4000000 in
set_option maxRecDepth 100000 in
theorem Qh{K:Nat}(v:aA)(g:GI K v)(hK:K+1≤100)(peer:Int)(β:Bool)(m:aB)(hm:m.args.length≤4)(hn:m.name.size≤100)(hk:m.kind=2∨m.kind=4)(H:AH){b:Nat}{f:List Nat}(a:js H b v f):
    T Tryz.prog Γ Fn.Wd [.gp b 0 0,.int .i64 peer,.agg (m.c β)] H fun r H'=>r=.tup []∧∃v',GI (K+1) v'∧gU H b (fun c=>c∈f) H' v':=by
  refine Te (aD aJ aK [] _ _ _ ?_)
  unfold K4
  rcases hk with k2|k4
  · simp only[EZ,ag,Nat.reduceAdd,Nat.reduceBEq,BG,aF,aP,EF,aB.c,an,ae,decide_eq_false (show ¬m.kind=1 by omega),decide_eq_true k2]
    refine ah.ref (by simp only[EO]) (Uh v g (by omega) peer β m hm hn H a) ?_
    rintro _ H5 ⟨rfl,fin⟩
    simp only[EZ,ag,Nat.reduceAdd,Nat.reduceBEq,BG,aF,aP,EF,aB.c,an,ae]
    first|exact⟨rfl,fin⟩|exact⟨rfl,rfl,fin⟩|exact fin
  · simp only[EZ,ag,Nat.reduceAdd,Nat.reduceBEq,BG,aF,aP,EF,aB.c,an,ae,decide_eq_false (show ¬m.kind=1 by omega),decide_eq_false (show ¬m.kind=2 by omega),decide_eq_true k4]
    refine ah.ref (by simp only[EO]) (PT v g (by omega) peer β m hm hn H a) ?_
    rintro _ H5 ⟨rfl,fin⟩
    simp only[EZ,ag,Nat.reduceAdd,Nat.reduceBEq,BG,aF,aP,EF,aB.c,an,ae]
    first|exact⟨rfl,fin⟩|exact⟨rfl,rfl,fin⟩|exact fin
set_option maxHeartbeats 4000000 in
set_option maxRecDepth 100000 in
theorem QZ{K:Nat}(β β':Bool)(v:aA)(g:GI K v)(hK:K+10≤100)(peer:Int)(m:aB)(hm:m.args.length≤4)(hn:m.name.size≤100)(h:AH):
    T Tryz.prog Γ Fn.VF [.agg (v.c β),.int .i64 peer,.agg (m.c β')] h fun r h'=>∃v':aA,GI (K+10) v'∧aS h [.a v'.cd] r h':=by
  refine T.DP (cs:=aA.cd) ?_
  have gw:=g.w
  refine QE (aD aJ aK [7] _ _ _ ?_)
  unfold M0
  simp only[EZ,ag,Nat.reduceAdd,Nat.reduceBEq,Dz,aF,aP,ER,EF,aA.c,aB.c]
  refine ah.ref (by simp only[EO]) (Bq β v (g.vi.MN.mono (by omega)) _) ?_
  rintro w H1 fr
  replace fr:aS h _ _ _:=fr
  obtain⟨ac,f,rfl,o,nd,bb,eg⟩:=fr.a1
  obtain⟨wE,w2,wL,w4,fE,f2,fL,f4,rfl,rfl,oE,o2,oL,o4⟩:=ju o
  obtain⟨a1,a2,a3,a4⟩:=oE.cell
  obtain⟨b1,b2,b3,b4⟩:=o2.cell
  obtain⟨c1,c2,c3,c4⟩:=oL.cell
  obtain⟨d1,d2,d3,d4⟩:=o4.cell
  obtain⟨H2,s2,hb2,l2,r2⟩:=tZ (H:=H1) (z:=[.int .i64 0,.nils,.nils,.nils,.nils]) (cells:=[.int .i64 v.id,wE,w2,wL,w4]) rfl (by simp only[jv,jz,a3,b3,c3,d3];rfl)
  have lt1:∀c∈fE++(f2++(fL++f4)),c<H1.length:=fun c hc=>o.lt c hc
  have vat2:js H2 H1.length v (fE++(f2++(fL++f4))):=js.of hb2 (o.frame fun c hc=>r2 c (lt1 c hc)) nd (fun hc=>Nat.lt_irrefl _ (lt1 _ hc))
  simp only[EZ,ag,Nat.reduceAdd,Nat.reduceBEq,Dz,aF,aP,ER,EF,EA,re _ _ (show List.all [AV.int .i64 0,.nils,.nils,.nils,.nils] bo=true from rfl),g9,a1,a2,a3,b1,b2,b3,c1,c2,c3,d1,d2,d3,s2]
  refine ah.ref (by simp only[EO]) (Ph v g hK peer β' m hm hn H2 vat2) ?_
  rintro _ H3 ⟨rfl,v',g',f3,a3v,l3,m3,r3⟩
  replace a3v:js H3 H1.length v' f3:=a3v
  replace l3:H2.length≤H3.length:=l3
  replace m3:∀c∈f3,c∈fE++(f2++(fL++f4))∨H2.length≤c:=m3
  replace r3:∀c,¬c∈fE++(f2++(fL++f4))→c≠H1.length→c<H2.length→H3[c]? = H2[c]?:=r3
  obtain⟨wE',w2',wL',w4',fE',f2',fL',f4',rfl,o3⟩:=a3v
  obtain⟨aa1,aa2,aa3,aa4⟩:=o3.oE.cell
  obtain⟨bb1,bb2,bb3,bb4⟩:=o3.o2.cell
  obtain⟨cc1,cc2,cc3,cc4⟩:=o3.oL.cell
  obtain⟨dd1,dd2,dd3,dd4⟩:=o3.o4.cell
  have cb3:∀(e:List AV) (L:List (List AV)) (off n:Nat),(St.mk e L H3).cells (.gp H1.length 0 off) n=sub _ off n:=fun e L off n=>bk o3.hb
  have nd3:=o3.nodup
  have hlen:=eg.len
  have ex3:bQ h H3:=⟨by omega,fun c hc=>by
    rw[r3 c (fun q=>by have:=bb c q;omega) (by omega) (by omega),r2 c (by omega),eg.fr c hc]⟩
  have bb3':∀c∈gB fE' f2' fL' f4',h.length≤c:=fun c hc=>by
    rcases m3 c hc with q|q
    · exact bb c q
    · omega
  have own3:=o3.own
  obtain⟨N,hN⟩:=ex3.out
  simp only[EZ,ag,Nat.reduceAdd,Nat.reduceBEq,Dz,aF,aP,ER,EF,EA,cb3,aa1,aa2,aa3,bb1,bb2,bb3,cc1,cc2,cc3,dd1,dd2,dd3]
  exact⟨by first|simp only[List.all_cons,List.all_nil,EO,aa3,aa4,bb3,bb4,cc3,cc4,dd3,dd4]|(simp only[c7,EO,aa3,aa4,bb3,bb4,cc3,cc4,dd3,dd4])|(show eH _=true;simp only[EO,aa3,aa4,bb3,bb4,cc3,cc4,dd3,dd4]),v',_,N,_,g',rfl,hN,own3,nd3,bb3'⟩
set_option maxHeartbeats 4000000 in
set_option maxRecDepth 100000 in
theorem Ri{K:Nat}(β β':Bool)(v:aA)(g:GI K v)(hK:K+1≤100)(peer:Int)(m:aB)(hm:m.args.length≤4)(hn:m.name.size≤100)(hk:m.kind=2∨m.kind=4)(h:AH):
    T Tryz.prog Γ Fn.Vz [.agg (v.c β),.int .i64 peer,.agg (m.c β')] h fun r h'=>∃v':aA,GI (K+1) v'∧aS h [.a v'.cd] r h':=by
  refine T.DP (cs:=aA.cd) ?_
  have gw:=g.w
  refine RB (aD aJ aK [7] _ _ _ ?_)
  unfold Me
  simp only[EZ,ag,Nat.reduceAdd,Nat.reduceBEq,DQ,aF,aP,ER,EF,aA.c,aB.c]
  refine ah.ref (by simp only[EO]) (Bq β v (g.vi.MN.mono (by omega)) _) ?_
  rintro w H1 fr
  replace fr:aS h _ _ _:=fr
  obtain⟨ac,f,rfl,o,nd,bb,eg⟩:=fr.a1
  obtain⟨wE,w2,wL,w4,fE,f2,fL,f4,rfl,rfl,oE,o2,oL,o4⟩:=ju o
  obtain⟨a1,a2,a3,a4⟩:=oE.cell
  obtain⟨b1,b2,b3,b4⟩:=o2.cell
  obtain⟨c1,c2,c3,c4⟩:=oL.cell
  obtain⟨d1,d2,d3,d4⟩:=o4.cell
  obtain⟨H2,s2,hb2,l2,r2⟩:=tZ (H:=H1) (z:=[.int .i64 0,.nils,.nils,.nils,.nils]) (cells:=[.int .i64 v.id,wE,w2,wL,w4]) rfl (by simp only[jv,jz,a3,b3,c3,d3];rfl)
  have lt1:∀c∈fE++(f2++(fL++f4)),c<H1.length:=fun c hc=>o.lt c hc
  have vat2:js H2 H1.length v (fE++(f2++(fL++f4))):=js.of hb2 (o.frame fun c hc=>r2 c (lt1 c hc)) nd (fun hc=>Nat.lt_irrefl _ (lt1 _ hc))
  simp only[EZ,ag,Nat.reduceAdd,Nat.reduceBEq,DQ,aF,aP,ER,EF,EA,re _ _ (show List.all [AV.int .i64 0,.nils,.nils,.nils,.nils] bo=true from rfl),g9,a1,a2,a3,b1,b2,b3,c1,c2,c3,d1,d2,d3,s2]
  refine ah.ref (by simp only[EO]) (Qh v g hK peer β' m hm hn hk H2 vat2) ?_
  rintro _ H3 ⟨rfl,v',g',f3,a3v,l3,m3,r3⟩
  replace a3v:js H3 H1.length v' f3:=a3v
  replace l3:H2.length≤H3.length:=l3
  replace m3:∀c∈f3,c∈fE++(f2++(fL++f4))∨H2.length≤c:=m3
  replace r3:∀c,¬c∈fE++(f2++(fL++f4))→c≠H1.length→c<H2.length→H3[c]? = H2[c]?:=r3
  obtain⟨wE',w2',wL',w4',fE',f2',fL',f4',rfl,o3⟩:=a3v
  obtain⟨aa1,aa2,aa3,aa4⟩:=o3.oE.cell
  obtain⟨bb1,bb2,bb3,bb4⟩:=o3.o2.cell
  obtain⟨cc1,cc2,cc3,cc4⟩:=o3.oL.cell
  obtain⟨dd1,dd2,dd3,dd4⟩:=o3.o4.cell
  have cb3:∀(e:List AV) (L:List (List AV)) (off n:Nat),(St.mk e L H3).cells (.gp H1.length 0 off) n=sub _ off n:=fun e L off n=>bk o3.hb
  have nd3:=o3.nodup
  have hlen:=eg.len
  have ex3:bQ h H3:=⟨by omega,fun c hc=>by
    rw[r3 c (fun q=>by have:=bb c q;omega) (by omega) (by omega),r2 c (by omega),eg.fr c hc]⟩
  have bb3':∀c∈gB fE' f2' fL' f4',h.length≤c:=fun c hc=>by
    rcases m3 c hc with q|q
    · exact bb c q
    · omega
  have own3:=o3.own
  obtain⟨N,hN⟩:=ex3.out
  simp only[EZ,ag,Nat.reduceAdd,Nat.reduceBEq,DQ,aF,aP,ER,EF,EA,cb3,aa1,aa2,aa3,bb1,bb2,bb3,cc1,cc2,cc3,dd1,dd2,dd3]
  exact⟨by first|simp only[List.all_cons,List.all_nil,EO,aa3,aa4,bb3,bb4,cc3,cc4,dd3,dd4]|(simp only[c7,EO,aa3,aa4,bb3,bb4,cc3,cc4,dd3,dd4])|(show eH _=true;simp only[EO,aa3,aa4,bb3,bb4,cc3,cc4,dd3,dd4]),v',_,N,_,g',rfl,hN,own3,nd3,bb3'⟩
end Go.Proofs.YtccjhmhkfnnmaaaGreat
namespace Go.Proofs.YtccjhmhkfnnmaaaGreat
open Go.AM
variable {Γ:cj}
def dV(v:aA):List Int:=v.entities.map fun e=>e.kind
theorem jt(v:aA)(n:Int)(e:aE)(h:e.kind=(aT v n).kind):dV (fI v n.toNat e)=dV v:=by
  simp only[dV,fI,List.map_set]
  apply List.ext_getElem?
  intro i
  by_cases hi:n.toNat=i
  · subst hi
    by_cases hk:n.toNat<v.entities.length
    · rw[List.getElem?_set_self (by simpa using hk),List.getElem?_map,List.getElem?_eq_getElem hk,h,aT,List.getD_eq_getElem?_getD,List.getElem?_eq_getElem hk]
      rfl
    · rw[List.set_eq_of_length_le (by simpa using hk)]
  · rw[List.getElem?_set_ne hi]
theorem nK.kinds{v v':aA}(h:nK v v'):dV v'=dV v:=by rw[dV,h.ents];rfl
theorem Br(v:aA)(s:aX)(peer pos ans:Int):dV (jN v s peer pos ans)=dV v:=by
  have sm:=(tY v s peer).1.trans (uN (eh v s peer) peer s.result).1
  rw[jN,(qC _ _ _).1.kinds,kF,jt _ _ _ (by rw[sm.aT];rfl),sm.kinds]
theorem mn{α:Type}{D:aA→α→aA}(h:∀v s,dV (D v s)=dV v):∀(q:List α) (v:aA),dV (q.foldl D v)=dV v
  | [],v=>rfl
  | s::q,v=>by rw[List.foldl_cons,mn h q,h]
theorem sY{D:aA→aX→aA}(h:∀v s,dV (D v s)=dV v)(v:aA)(s:aX)(peer pos ans:Int):dV (gW D v s peer pos ans)=dV v:=by
  unfold gW
  split
  · rw[mn h,Br]
  · rfl
theorem vR(y:ar)(v:aA)(a:cD):dV (de y v a)=dV v:=by
  unfold de
  split
  · exact jt _ _ _ rfl
  · rw[(qC _ _ _).1.kinds,(pb _ _ _).1.kinds]
theorem u7{D:aA→aX→aA}(h:∀v s,dV (D v s)=dV v)(v:aA)(p:Int)(x:ar):dV (hP D v p x)=dV v:=by
  unfold hP
  split
  · rw[mn (vR _),mn h]
    exact jt _ _ _ rfl
  · rfl
theorem kG:∀(n:Nat) (v:aA) (s:aX),dV (cn n v s)=dV v
  | 0,_,_=>rfl
  | n+1,v,s=>by
    have h:=kG n
    unfold cn
    repeat' split
    all_goals first|rfl|exact u7 h _ _ _|exact sY h _ _ _ _ _|exact jt _ _ _ rfl|exact(jt _ _ (gv _) rfl).trans (sY h _ _ _ _ _)
def KI(v:aA):Prop:=∀k∈dV v,k=1∨k=2∨k=3
theorem KI.of{v:aA}(h:∀e∈v.entities,Dm e):KI v:=fun k hk=>by
  obtain⟨e,he,rfl⟩:=List.mem_map.1 hk
  exact h e he
theorem By(v:aA)(t:Int)(name:ByteArray)(args:List ar)(h:KI v):KI (iG v t name args).1:=by
  unfold iG
  split
  · rename_i hg
    have e:=(sF hg).1
    have e2:dV (eY v t)=dV v++[2]:=by
      rw[eY,jt _ _ _ (by rw[sH e];rfl)];simp[dV,kf,gN]
    simp only[KI,kG,e2]
    intro k hk
    rcases List.mem_append.1 hk with g|g
    · exact h k g
    · rw[List.mem_singleton.1 g];exact .inr (.inl rfl)
  · exact h
structure DI (k:Nat) (v:aA):Prop where
  vi:VI v
  w:wV v+4*k≤40
  kd:KI v
  ne:0<v.entities.length
  lb:∃K,K+4*k≤60∧LB K 0 v
theorem DI.Bp{k:Nat}{v:aA}(d:DI (k+1) v):DI k v:=⟨d.vi,by have:=d.w;omega,d.kd,d.ne,by obtain⟨K,h1,h2⟩:=d.lb;exact⟨K,by omega,h2⟩⟩
theorem Et{v v':aA}(h:dV v'=dV v):v'.entities.length=v.entities.length:=by
  have:=congrArg List.length h
  simpa[dV]using this
theorem DI.res{k:Nat}{v:aA}(d:DI (k+1) v)(p:Int)(x:ar):DI k (hP (cn (jj v+1)) v p x):=by
  obtain⟨r1,r2,r3,r4⟩:=C9 (iI (jj v+1)) v p x
  exact⟨r4 d.vi,by have:=d.w;omega,by unfold KI;rw[u7 (kG _)];exact d.kd,by rw[r1];exact d.ne,by
    obtain⟨K,h1,h2⟩:=d.lb
    exact⟨K,by omega,(n8 (jj v+1)).res (by omega) v p x h2⟩⟩
theorem DI.send{k:Nat}{v:aA}(d:DI (k+1) v)(t:Int)(name:ByteArray)(args:List ar):DI k (iG v t name args).1:=by
  obtain⟨r1,r2⟩:=I4 v t name args
  refine⟨r2 d.vi,by have:=d.w;omega,By v t name args d.kd,?_,?_⟩
  rotate_left
  · obtain⟨K,h1,h2⟩:=d.lb
    unfold iG
    split
    · rename_i hg
      obtain⟨g1,_,g3,_⟩:=sF hg
      refine⟨K+4,by omega,n8 (jj (eY v t)+1) (K+4) 0 (eY v t) (lF v t name args) (by omega) ?_⟩
      have n0:LB K 0 (kf v):=by
        obtain⟨N,p1,p2,p3⟩:=h2
        have e:wE (kf v)=wE v:=by simp[wE,kf,jB,gN,pq]
        exact⟨N,p1,by rw[e];exact p2,p3⟩
      have n1:LB K 0 (eY v t):=n0.fI (by rw[kf,List.length_append];exact BP g1) _ (by rw[sH g1];exact Nat.le_refl _)
      have:(lF v t name args).args=args:=rfl
      rw[this]
      exact(LB.Q2 (c:=4) n1).mono (by omega)
    · exact⟨K,by omega,h2⟩
  unfold iG
  split
  · rename_i hg
    have:=Et (kG (jj (eY v t)+1) (eY v t) (lF v t name args))
    show 0<(cn (jj (eY v t)+1) (eY v t) (lF v t name args)).entities.length
    rw[this,eY,ie,kf,List.length_append]
    have:=d.ne;omega
  · exact d.ne
theorem VC.frame{h H H':AH}{b:Nat}{bs:List Int}{v:aA}{wE w2 wL w4:AV}{f:List Nat}(x:VC h H b bs v wE w2 wL w4 f)(hbl:b<h.length){g:List Nat}(hl:H.length≤H'.length)(hf:∀c,c∉g→c<H.length→H'[c]? = H[c]?)(hg:∀c∈g,h.length≤c∧c∉f):VC h H' b bs v wE w2 wL w4 f:=by
  have hL:=x.dr.len
  obtain⟨i,s,hi,hgt⟩:=x.dr.cur
  exact⟨x.own.frame fun c hc=>hf c (fun q=>(hg c q).2 hc) (x.own.lt c hc),x.nd,x.bf,⟨⟨i,s,hi,by rw[bO (hf b (fun q=>by have:=(hg b q).1;omega) (by omega))];exact hgt⟩,by omega,fun c h1 h2=>by
    rw[hf c (fun q=>by have:=(hg c q).1;omega) (by omega),x.dr.fr c h1 h2]⟩⟩
theorem Qs(H:AH){b:Nat}{bs:List Int}(hb:bs.length≤1073741824)(hc:nc H b bs){w:AV}{fp:List Nat}{l:List ByteArray}(o:bN H w (.sl 1 (l.map fun s=>[CD.s s])) fp)(nd:fp.Nodup)(hbf:b∉fp)(h0:0<l.length):
    T Tryz.prog Γ Fn.V0 [.gp b 0 0,w] H fun v h'=>∃s∈l,v=.str s∧aR H h' b bs:=by
  have LL0:=(dE o).2
  rw[List.length_map]at LL0
  obtain⟨c1,c2,c3,c4⟩:=o.cell
  refine Rg (aD aJ aK [] _ _ _ ?_)
  unfold MV
  simp only[EZ,ag,Nat.reduceAdd,Nat.reduceBEq,Gr,c1,c2,c3,LL0]
  refine ah.ref (by simp only[EO]) (aW _ hb hc _) ?_
  rintro _ H1 ⟨x,rfl,x0,x1,d1⟩
  replace d1:aR H H1 b bs:=d1
  obtain⟨k,rfl⟩:∃k:Nat,x=k:=⟨x.toNat,by omega⟩
  have hk:k<l.length:=by have:=x1 (by omega);omega
  obtain⟨qb,g,pre,row,post,f,i1,m,lr,oR,_,_,hqb,_⟩:=(d1.own o hbf).kK nd (k:=k) (by simpa using hk)
  rw[List.getElem_map]at oR
  simp only[gI,gD,jm]at oR
  obtain⟨_,_,_,_,rfl,_,⟨rfl,_⟩,⟨rfl,_⟩⟩:=oR
  have rd:∀(e:List AV) (L:List (List AV)),(St.mk e L H1).cells (.gp qb g pre.length) 1=some [.str l[k]]:=fun e L=>by rw[m.qn e L 1 (by simp)];rfl
  simp only[EZ,ag,Nat.reduceAdd,Nat.reduceBEq,Gr,i1,rd]
  first|exact⟨rfl,_,List.getElem_mem hk,rfl,d1⟩|exact⟨_,List.getElem_mem hk,rfl,d1⟩
theorem Hd(h:AH)(l:List ByteArray){n:Nat}(hn:l.length=n):bN (h++[some (0,(l.map fun n=>[AV.str n]).flatten)]) (.gs h.length 0 0 n n 1 true) (.sl 1 (l.map fun n=>[.s n])) [h.length]:=by
  subst hn
  have ho:∀l:List ByteArray,aO (h++[some (0,(l.map fun n=>[AV.str n]).flatten)]) (l.map fun n=>[AV.str n]).flatten (l.map fun n=>[CD.s n]).flatten []→True:=fun _ _=>trivial
  have hl:∀(H:AH) (l:List ByteArray),aO H (l.map fun n=>[AV.str n]).flatten (l.map fun n=>[CD.s n]).flatten []:=fun H l=>by
    induction l with
    | nil=>exact .nil
    | cons a l ih=>exact .s ih
  have:=bN.sl_mk (h:=h++[some (0,(l.map fun n=>[AV.str n]).flatten)]) (b:=h.length) (g:=0) (cap:=l.length) (sz:=1) (ex:=true) («as»:=(l.map fun n=>[AV.str n]).flatten) (tail:=[]) (xs:=l.map fun n=>[CD.s n]) (fp:=[])
    (by rw[List.append_nil];exact cw _ _) (fun y hy=>by obtain⟨x,_,rfl⟩:=List.mem_map.1 hy;rfl) (by simp) (by simp) (hl _ l)
  simpa using this
theorem Hs(H:AH){b:Nat}{bs:List Int}(hb:bs.length≤1073741824)(hc:nc H b bs):
    T Tryz.prog Γ Fn.ON [.gp b 0 0] H fun v h'=>∃s:ByteArray,v=.str s∧s.size≤100∧aR H h' b bs:=by
  have hbl:b<H.length:=by obtain⟨_,_,_,hg⟩:=hc;exact c5 hg
  refine Pz (aD aJ aK [] _ _ _ ?_)
  unfold Kl
  simp only[EZ,ag,Nat.reduceAdd,Nat.reduceBEq,F0,aF,EF,EA,O8]
  have os:=Hd H [⟨#[103,101,116]⟩,⟨#[115,101,116]⟩,⟨#[97,100,100]⟩,⟨#[109,97,107,101]⟩,⟨#[103,111]⟩] rfl
  refine ah.ref (by simp only[EO]) (Qs _ hb (hc.grow _) os (by simp) (by simp only[List.mem_singleton];omega) (by simp)) ?_
  rintro _ H1 ⟨s,hs,rfl,d1⟩
  replace d1:aR (H++[some (0,_)]) H1 b bs:=d1
  have sz:s.size≤100:=by
    simp only[List.mem_cons,List.not_mem_nil,or_false]at hs
    rcases hs with rfl|rfl|rfl|rfl|rfl<;>decide
  have dd:=(aR.kO hc (bQ.app H _)).trans d1
  simp only[EZ,ag,Nat.reduceAdd,Nat.reduceBEq,F0,aF,EF,EA]
  first|exact⟨rfl,s,rfl,sz,dd⟩|exact⟨s,rfl,sz,dd⟩
set_option maxHeartbeats 8000000 in
set_option maxRecDepth 100000 in
theorem Tr(h:AH){b:Nat}{bs:List Int}(hb:bs.length≤1073741824)(hc:nc h b bs):T Tryz.prog Γ Fn.V2 [.gp b 0 0] h fun r H'=>∃v wE w2 wL w4 f,r=.agg [.int .i64 v.id,wE,w2,wL,w4]∧DI 0 v∧VC h H' b bs v wE w2 wL w4 f:=by
  have hbl:b<h.length:=by obtain⟨_,_,_,hg⟩:=hc;exact c5 hg
  refine Uj (aD aJ aK [] _ _ _ ?_)
  unfold JM
  simp only[EZ,ag,Nat.reduceAdd,Nat.reduceBEq,iY,eE,eG,aF,aP,ER,EF,EA]
  refine ah.ref (by simp only[EO]) (QK h hb hc) ?_
  rintro _ H1 ⟨v0,wE,w2,wL,w4,f,rfl,ds,x1⟩
  replace x1:VC h H1 b bs v0 wE w2 wL w4 f:=x1
  obtain⟨⟨a1,a2,a3,a4⟩,⟨b1,b2,b3,b4⟩,⟨c1,c2,c3,c4⟩,⟨d1,d2,d3,d4⟩,lE⟩:=x1.cell
  have di0:DI 6 v0:=⟨ds.vi,by have:=ds.w;omega,.of ds.kd,ds.ne,36,by omega,13,fun l hl=>(ds.li l hl).mono (by omega),by have:=ds.w;have:=PD v0;omega,ds.lk⟩
  simp only[EZ,ag,Nat.reduceAdd,Nat.reduceBEq,iY,eE,eG,aF,aP,ER,EF,EA,a1,a2,a3,b1,b2,b3,c1,c2,c3,d1,d2,d3]
  refine ah.ref (by simp only[EO]) (aW _ hb x1.dr.cur _) ?_
  rintro _ H2 ⟨kC,rfl,cnt0,cnt1,q2⟩
  replace q2:aR H1 H2 b bs:=q2
  have x2:=x1.draw q2
  replace cnt1:=cnt1 (by omega)
  obtain⟨k0,rfl⟩:∃k0:Nat,kC=k0:=⟨kC.toNat,by omega⟩
  have di1:DI k0 v0:=⟨di0.vi,by have:=di0.w;omega,di0.kd,di0.ne,by obtain⟨K,h1,h2⟩:=di0.lb;exact⟨K,by omega,h2⟩⟩
  simp only[EZ,ag,Nat.reduceAdd,Nat.reduceBEq,iY,eE,eG,aF,aP,ER,EF,EA]
  refine dD aJ aK [] (fun x:Nat×aA×AV×AV×AV×AV×List Nat×AH=>x.1≤6∧DI x.1 x.2.1∧VC h x.2.2.2.2.2.2.2 b bs x.2.1 x.2.2.1 x.2.2.2.1 x.2.2.2.2.1 x.2.2.2.2.2.1 x.2.2.2.2.2.2.1) (fun x=>x.1)
    (fun x=>CN (.gp b 0 0) (.lp ([]:List (List AV)).length 0) (.lp (([]:List (List AV)).length+1) 0) (.int .i64 x.1) (LL z5 [.int .i64 x.2.1.id,x.2.2.1,x.2.2.2.1,x.2.2.2.2.1,x.2.2.2.2.2.1] []) x.2.2.2.2.2.2.2) (k0,v0,wE,w2,wL,w4,_,H2) ⟨by simp only;omega,di1,x2⟩ ⟨by simp[CN,eP,eM],rfl,rfl⟩ ?_
  rintro⟨k,v,wE,w2,wL,w4,f,Hi⟩ ⟨hk,ds,xi⟩
  simp only at hk ds xi
  obtain⟨⟨a1,a2,a3,a4⟩,⟨b1,b2,b3,b4⟩,⟨c1,c2,c3,c4⟩,⟨d1,d2,d3,d4⟩,lE⟩:=xi.cell
  simp only[EZ,ag,Nat.reduceAdd,Nat.reduceBEq,iY,eE,eG,CN,aF,aP,ER,EF,EA]
  refine bI (fun hgt=>?_) (fun hge=>?_)
  rotate_left
  · have hge:k=0:=by simp at hge;omega
    subst hge
    have st0:∀(e:List AV) (h:AH),(St.mk e (LL z5 [.int .i64 v.id,wE,w2,wL,w4] []) h).store (.lp (([]:List (List AV)).length) 0) [.int .i64 v.id,wE,w2,wL,w4]=some ⟨e,LL [.int .i64 v.id,wE,w2,wL,w4] [.int .i64 v.id,wE,w2,wL,w4] [],h⟩:=fun e h=>tG (by simp) (by simp only[List.all_cons,List.all_nil,a2,b2,c2,d2];rfl)
    simp only[EZ,ag,Nat.reduceAdd,Nat.reduceBEq,iY,eE,eG,aF,aP,ER,EF,EA,cg,aY,a1,a2,a3,b1,b2,b3,c1,c2,c3,d1,d2,d3,st0]
    exact⟨by simp only[c7,EO,a3,a4,b3,b4,c3,c4,d3,d4],v,wE,w2,wL,w4,f,rfl,ds,xi⟩
  have hgt:0<k:=by simp at hgt;omega
  obtain⟨m,rfl⟩:∃m,k=m+1:=⟨k-1,by omega⟩
  simp only[EZ,ag,Nat.reduceAdd,Nat.reduceBEq,iY,eE,eG,aF,aP,ER,EF,EA]
  refine ah.ref (by simp only[EO]) (aW _ hb (xi.ext (bQ.app Hi _)).dr.cur _) ?_
  rintro _ H1' ⟨n,rfl,n0,n1,q1'⟩
  replace q1':aR (Hi++[some (0,[])]) H1' b bs:=q1'
  have x1':=(xi.ext (bQ.app Hi _)).draw q1'
  replace n1:=n1 (by omega)
  obtain⟨n',rfl⟩:∃n':Nat,n=n':=⟨n.toNat,by omega⟩
  have hiL:=xi.dr.len
  have oA0:bN H1' (.gs Hi.length 0 0 0 0 2 true) (.sl 2 (([]:List ar).map ar.cd)) [Hi.length]:=q1'.own (dK Hi 2) (by simp only[List.mem_singleton];omega)
  simp only[EZ,ag,Nat.reduceAdd,Nat.reduceBEq,iY,eE,eG,aF,aP,ER,EF,EA]
  have hfb:∀c∈f,c<Hi.length:=xi.own.lt
  refine dD aJ aK [] (fun x:Nat×AV×AH×List Nat×List ar=>x.1≤2∧x.2.2.2.2.length+x.1≤2∧bN x.2.2.1 x.2.1 (.sl 2 (x.2.2.2.2.map ar.cd)) x.2.2.2.1∧x.2.2.2.1.Nodup∧(∀c∈x.2.2.2.1,h.length≤c∧c∉f)∧VC h x.2.2.1 b bs v wE w2 wL w4 f) (fun x=>x.1)
    (fun x=>CL (.gp b 0 0) (.lp ([]:List (List AV)).length 0) (.lp (([]:List (List AV)).length+1) 0) (.int .i64 ((m+1:Nat):Int)) x.2.1 (.int .i64 x.1) (LL z5 [.int .i64 v.id,wE,w2,wL,w4] []) x.2.2.1) (n',.gs Hi.length 0 0 0 0 2 true,H1',[Hi.length],[]) ⟨by simp only;omega,by simp only[List.length_nil];omega,oA0,by simp,fun c hc=>by
      rw[List.mem_singleton.1 hc];exact⟨by omega,fun g=>Nat.lt_irrefl _ (hfb _ g)⟩,x1'⟩ ⟨by simp[CL,eP,eM],rfl,rfl⟩ ?_
  clear x1' oA0 q1' n1
  rintro⟨k2,w5,Hj,f5,args⟩ ⟨hk2,hal,oA,nA,bA,xj⟩
  simp only at hk2 hal oA nA bA xj
  obtain⟨e1,e2,e3,e4⟩:=oA.cell
  simp only[EZ,ag,Nat.reduceAdd,Nat.reduceBEq,iY,eE,eG,CL,aF,aP,ER,EF,EA]
  refine bI (fun hgt2=>?_) (fun hge2=>?_)
  · have hgt2:0<k2:=by simp at hgt2;omega
    obtain⟨m2,rfl⟩:∃m2,k2=m2+1:=⟨k2-1,by omega⟩
    simp only[EZ,ag,Nat.reduceAdd,Nat.reduceBEq,iY,eE,eG,aF,aP,ER,EF,EA,cg,aY,a1,a2,a3,b1,b2,b3,c1,c2,c3,d1,d2,d3,lE]
    refine ah.ref (by simp only[EO,a3,b3,c3,d3]) (Js Hj hb xj.dr.cur xj.own ds.ne (by have:=ds.vi.ents;omega)) ?_
    rintro _ H3 ⟨z,rfl,_,q3⟩
    replace q3:aR Hj H3 b bs:=q3
    have x3:=xj.draw q3
    have oA3:=q3.own oA (fun g=>by have:=(bA b g).1;omega)
    obtain⟨v',H4,fp',ea,o',nd',hf',hl',hm'⟩:=dw (bytes:=16) oA3 (ys:=[.int .i64 z.kind,.int .i64 z.n]) (row:=z.cd) (f2:=[]) (by simpa using nA) (by omega) rfl (.i (.i .nil)) (by simp only[List.length_map,aU];omega)
    obtain⟨p1,p2,p3,p4⟩:=o'.cell
    simp only[EZ,ag,Nat.reduceAdd,Nat.reduceBEq,iY,eE,eG,aF,aP,ER,EF,EA,ar.c,e1,e2,e3,ea,p1,p2,p3]
    have x4:=x3.frame hbl hl' hf' (fun c hc=>bA c hc)
    have l3:=q3.len
    have hjL:=xj.dr.len
    have hfj:∀c∈f,c<Hj.length:=xj.own.lt
    exact⟨(m2,v',H4,fp',args++[z]),⟨by simp only;omega,by simp only[List.length_append,List.length_cons,List.length_nil];omega,by simpa using o',nd',fun c hc=>by
      rcases hm' c hc with g|g|g
      · exact bA c g
      · cases g
      · exact⟨by omega,fun q=>by have:=hfj c q;omega⟩,x4⟩,by simp only;omega,⟨by rw[DA (by omega)];simp[eP,eM],rfl,rfl⟩⟩
  have hge2:k2=0:=by simp at hge2;omega
  subst hge2
  simp only[EZ,ag,Nat.reduceAdd,Nat.reduceBEq,iY,eE,eG,aF,aP,ER,EF,EA,cg,aY,a1,a2,a3,b1,b2,b3,c1,c2,c3,d1,d2,d3,lE]
  refine ah.ref (by simp only[EO]) (aW _ hb xj.dr.cur _) ?_
  rintro _ H3 ⟨n3,rfl,_,_,q3⟩
  replace q3:aR Hj H3 b bs:=q3
  have x3:=xj.draw q3
  have oA3:=q3.own oA (fun g=>by have:=(bA b g).1;omega)
  have wv:=ds.w
  by_cases n_0:n3=0
  · simp only[EZ,ag,Nat.reduceAdd,Nat.reduceBEq,iY,eE,eG,aF,aP,ER,EF,EA,cg,aY,a1,a2,a3,b1,b2,b3,c1,c2,c3,d1,d2,d3,lE,ae,decide_eq_true n_0]
    refine ah.ref (by simp only[EO]) (aW _ hb x3.dr.cur _) ?_
    rintro _ H4 ⟨pp,rfl,_,_,q4⟩
    replace q4:aR H3 H4 b bs:=q4
    have x4:=x3.draw q4
    simp only[EZ,ag,Nat.reduceAdd,Nat.reduceBEq,iY,eE,eG,aF,aP,ER,EF,EA,cg,aY,a1,a2,a3,b1,b2,b3,c1,c2,c3,d1,d2,d3,lE]
    try refine⟨fun r hr n cs hc=>by rw[show r=3 by simpa using hr]at hc ⊢;exact hc,?_⟩
    refine ah.ref (by simp only[EO,a3,b3,c3,d3]) (Js H4 hb x4.dr.cur x4.own ds.ne (by have:=ds.vi.ents;omega)) ?_
    rintro _ H5 ⟨z,rfl,_,q5⟩
    replace q5:aR H4 H5 b bs:=q5
    have x5:=x4.draw q5
    simp only[EZ,ag,Nat.reduceAdd,Nat.reduceBEq,iY,eE,eG,aF,aP,ER,EF,EA,cg,aY,a1,a2,a3,b1,b2,b3,c1,c2,c3,d1,d2,d3,lE]
    try refine⟨fun r hr n cs hc=>by rw[show r=3 by simpa using hr]at hc ⊢;exact hc,?_⟩
    refine ah.own (by simp only[EO,a3,b3,c3,d3,ar.c]) (aI (aO.dT (aA.bM true v) x5.own) (aI (.same _) (aI (.same _) bm))) (P3 true false v pp z ds.vi (by omega)) ?_
    rintro _ H6 fr
    replace fr:aS H5 _ _ _:=fr
    obtain⟨ac,f',rfl,o',n',b',eg⟩:=fr.a1
    obtain⟨wE',w2',wL',w4',_,_,_,_,rfl,_,_⟩:=ju o'
    have lh:=x5.dr.len
    have xx:VC h H6 b bs (hP (cn (jj v+1)) v pp z) wE' w2' wL' w4' f':=⟨o',n',fun c hc=>by have:=b' c hc;exact⟨by omega,by omega⟩,x5.dr.trans (.kO x5.dr.cur eg)⟩
    obtain⟨⟨aa1,aa2,aa3,aa4⟩,⟨bb1,bb2,bb3,bb4⟩,⟨cc1,cc2,cc3,cc4⟩,⟨dd1,dd2,dd3,dd4⟩,_⟩:=xx.cell
    have s5:=fun e h=>HT (e:=e) (h:=h) (id:=v.id) (i':=(hP (cn (jj v+1)) v pp z).id) (a:=wE) (b:=w2) (c:=wL) (d:=w4) (X:=[]) aa2 bb2 cc2 dd2
    simp only[EZ,ag,Nat.reduceAdd,Nat.reduceBEq,iY,eE,eG,aF,aP,ER,EF,EA,cg,aY,a1,a2,a3,b1,b2,b3,c1,c2,c3,d1,d2,d3,lE,aa1,aa2,aa3,bb1,bb2,bb3,cc1,cc2,cc3,dd1,dd2,dd3,s5]
    exact⟨(m,hP (cn (jj v+1)) v pp z,wE',w2',wL',w4',f',H6),⟨by simp only;omega,ds.res pp z,xx⟩,by simp only;omega,⟨by rw[DA (by omega)];simp[eP,eM],rfl,rfl⟩⟩
  · simp only[EZ,ag,Nat.reduceAdd,Nat.reduceBEq,iY,eE,eG,aF,aP,ER,EF,EA,cg,aY,a1,a2,a3,b1,b2,b3,c1,c2,c3,d1,d2,d3,lE,ae,decide_eq_false n_0]
    refine ah.ref (by simp only[EO]) (aW _ hb x3.dr.cur _) ?_
    rintro _ H4 ⟨pp,rfl,_,_,q4⟩
    replace q4:aR H3 H4 b bs:=q4
    have x4:=x3.draw q4
    have oA4:=q4.own oA3 (fun g=>by have:=(bA b g).1;omega)
    simp only[EZ,ag,Nat.reduceAdd,Nat.reduceBEq,iY,eE,eG,aF,aP,ER,EF,EA,cg,aY,a1,a2,a3,b1,b2,b3,c1,c2,c3,d1,d2,d3,lE]
    try refine⟨fun r hr n cs hc=>by rw[show r=3 by simpa using hr]at hc ⊢;exact hc,?_⟩
    refine ah.ref (by simp only[EO]) (Hs H4 hb x4.dr.cur) ?_
    rintro _ H5 ⟨nm,rfl,hnm,q5⟩
    replace q5:aR H4 H5 b bs:=q5
    have x5:=x4.draw q5
    have oA5:=q5.own oA4 (fun g=>by have:=(bA b g).1;omega)
    simp only[EZ,ag,Nat.reduceAdd,Nat.reduceBEq,iY,eE,eG,aF,aP,ER,EF,EA,cg,aY,a1,a2,a3,b1,b2,b3,c1,c2,c3,d1,d2,d3,lE]
    try refine⟨fun r hr n cs hc=>by rw[show r=3 by simpa using hr]at hc ⊢;exact hc,?_⟩
    refine ah.own (by simp only[EO,a3,b3,c3,d3,e3,e4]) (aI (aO.dT (aA.bM true v) x5.own) (aI (.same _) (aI (.same _) (aI (bN.dT (ar.bM true) oA5) bm)))) (SO true true v pp nm args ds.vi (by omega) (by omega) (by omega)) ?_
    rintro _ H6 fr
    replace fr:aS H5 _ _ _:=fr
    obtain⟨ac,f',rfl,o',n',b',eg⟩:=fr.a2 rfl
    obtain⟨wE',w2',wL',w4',_,_,_,_,rfl,_,_⟩:=ju o'
    have lh:=x5.dr.len
    have xx:VC h H6 b bs (iG v pp nm args).1 wE' w2' wL' w4' f':=⟨o',n',fun c hc=>by have:=b' c hc;exact⟨by omega,by omega⟩,x5.dr.trans (.kO x5.dr.cur eg)⟩
    obtain⟨⟨aa1,aa2,aa3,aa4⟩,⟨bb1,bb2,bb3,bb4⟩,⟨cc1,cc2,cc3,cc4⟩,⟨dd1,dd2,dd3,dd4⟩,_⟩:=xx.cell
    have s5:=fun e h=>HT (e:=e) (h:=h) (id:=v.id) (i':=(iG v pp nm args).1.id) (a:=wE) (b:=w2) (c:=wL) (d:=w4) (X:=[]) aa2 bb2 cc2 dd2
    simp only[EZ,ag,Nat.reduceAdd,Nat.reduceBEq,iY,eE,eG,aF,aP,ER,EF,EA,cg,aY,a1,a2,a3,b1,b2,b3,c1,c2,c3,d1,d2,d3,lE,aa1,aa2,aa3,bb1,bb2,bb3,cc1,cc2,cc3,dd1,dd2,dd3,s5]
    exact⟨(m,(iG v pp nm args).1,wE',w2',wL',w4',f',H6),⟨by simp only;omega,ds.send pp nm args,xx⟩,by simp only;omega,⟨by rw[DA (by omega)];simp[eP,eM],rfl,rfl⟩⟩
end Go.Proofs.YtccjhmhkfnnmaaaGreat
namespace Go.Proofs.YtccjhmhkfnnmaaaGreat
open Go.AM
variable {Γ:cj}
def cZ(m:aB)(w:AV):List AV:=[.int .i64 m.kind,.int .i64 m.pos,.int .i64 m.answer,.int .i64 m.question,.str m.name,w,.int .i64 m.value.kind,.int .i64 m.value.n,.int .i64 m.count,.int .i64 m.tag.vat,.int .i64 m.tag.entity,.int .i64 m.tag.seq]
theorem El{H:AH}{m:aB}{w:AV}{fp:List Nat}(o:bN H w (.sl 2 (m.args.map aV.cd)) fp):aO H (cZ m w) m.cd fp:=by
  have e:fp=fp++[]:=by simp
  rw[e]
  exact .i (.i (.i (.i (.s (.o o (.i (.i (.i (.i (.i (.i .nil)))))))))))
def EN(H:AH)(b:Nat)(bs:List Int)(row:List AV)(h':AH):Prop:=∃(m:aB) (w:AV) (fp:List Nat),row=cZ m w∧bN h' w (.sl 2 (m.args.map aV.cd)) fp∧fp.Nodup∧(∀c∈fp,H.length≤c)∧m.args.length≤3∧m.name.size≤100∧aR H h' b bs
theorem xg(H:AH){b:Nat}{bs:List Int}(hb:bs.length≤1073741824)(hc:nc H b bs):T Tryz.prog Γ Fn.OS [.gp b 0 0] H fun v h'=>∃y:aV,v=.agg [.int .i64 y.kind,.int .i64 y.n]∧aR H h' b bs:=by
  refine PG (aD aJ aK [] _ _ _ ?_)
  unfold KU
  simp only[EZ,ag,Nat.reduceAdd,Nat.reduceBEq,rF]
  refine ah.ref (by simp only[EO]) (aW _ hb hc _) ?_
  rintro _ H1 ⟨x,rfl,x0,x1,d1⟩
  replace d1:aR H H1 b bs:=d1
  by_cases k0:x=0
  · simp only[EZ,ag,Nat.reduceAdd,Nat.reduceBEq,rF,aF,ae,decide_eq_true k0]
    refine ah.ref (by simp only[EO]) (aW _ hb d1.cur _) ?_
    rintro _ H2 ⟨y,rfl,y0,y1,d2⟩
    replace d2:aR H1 H2 b bs:=d2
    simp only[EZ,ag,Nat.reduceAdd,Nat.reduceBEq,rF,aF]
    first|exact⟨rfl,⟨1,IntKind.i64.wrap (1+y)⟩,rfl,d1.trans d2⟩|exact⟨⟨1,IntKind.i64.wrap (1+y)⟩,rfl,d1.trans d2⟩
  by_cases k1:x=1
  · simp only[EZ,ag,Nat.reduceAdd,Nat.reduceBEq,rF,aF,ae,decide_eq_false k0,decide_eq_true k1]
    refine ah.ref (by simp only[EO]) (aW _ hb d1.cur _) ?_
    rintro _ H2 ⟨y,rfl,y0,y1,d2⟩
    replace d2:aR H1 H2 b bs:=d2
    simp only[EZ,ag,Nat.reduceAdd,Nat.reduceBEq,rF,aF]
    first|exact⟨rfl,⟨2,IntKind.i64.wrap (1+y)⟩,rfl,d1.trans d2⟩|exact⟨⟨2,IntKind.i64.wrap (1+y)⟩,rfl,d1.trans d2⟩
  by_cases k2:x=2
  · simp only[EZ,ag,Nat.reduceAdd,Nat.reduceBEq,rF,aF,ae,decide_eq_false k0,decide_eq_false k1,decide_eq_true k2]
    first|exact⟨rfl,⟨3,0⟩,rfl,d1⟩|exact⟨⟨3,0⟩,rfl,d1⟩
  simp only[EZ,ag,Nat.reduceAdd,Nat.reduceBEq,rF,aF,ae,decide_eq_false k0,decide_eq_false k1,decide_eq_false k2]
  refine ah.ref (by simp only[EO]) (aW _ hb d1.cur _) ?_
  rintro _ H2 ⟨y,rfl,y0,y1,d2⟩
  replace d2:aR H1 H2 b bs:=d2
  simp only[EZ,ag,Nat.reduceAdd,Nat.reduceBEq,rF,aF]
  first|exact⟨rfl,⟨0,y⟩,rfl,d1.trans d2⟩|exact⟨⟨0,y⟩,rfl,d1.trans d2⟩
set_option maxHeartbeats 8000000 in
set_option maxRecDepth 100000 in
theorem Rr(H:AH){b:Nat}{bs:List Int}(hb:bs.length≤1073741824)(hc:nc H b bs):T Tryz.prog Γ Fn.Vo [.gp b 0 0] H fun v h'=>∃row,v=.agg row∧EN H b bs row h':=by
  have d0:aR H H b bs:=⟨hc,Nat.le_refl _,fun _ _ _=>rfl⟩
  have flat:∀(m:aB) (h':AH),m.args=[]→m.name.size≤100→aR H h' b bs→∃row,(AV.agg (cZ m .nils))=.agg row∧EN H b bs row h':=fun m h' e1 e2 d=>⟨_,rfl,m,.nils,[],rfl,by rw[e1];exact .nil _,List.nodup_nil,(fun c hc=>by cases hc),by rw[e1];exact Nat.zero_le _,e2,d⟩
  refine QU (aD aJ aK [] _ _ _ ?_)
  unfold Mu
  simp only[EZ,ag,Nat.reduceAdd,Nat.reduceBEq,gy,cV,aF,aP,ER,EF,EA,ae,an]
  refine ah.ref (by simp only[EO]) (aW _ hb d0.cur _) ?_
  rintro _ H1 ⟨qq,rfl,_,_,q⟩
  replace q:aR H H1 b bs:=q
  have d1:=d0.trans q
  clear q
  simp only[EZ,ag,Nat.reduceAdd,Nat.reduceBEq,gy,cV,aF,aP,ER,EF,EA,ae,an]
  refine ah.ref (by simp only[EO]) (aW _ hb d1.cur _) ?_
  rintro _ H2 ⟨x,rfl,x0,x1,q⟩
  replace q:aR H1 H2 b bs:=q
  have d2:=d1.trans q
  clear q
  by_cases k0:x=0
  · simp only[EZ,ag,Nat.reduceAdd,Nat.reduceBEq,gy,cV,aF,aP,ER,EF,EA,ae,an,decide_eq_true k0]
    refine ah.ref (by simp only[EO]) (xg _ hb d2.cur) ?_
    rintro _ H3 ⟨y,rfl,q⟩
    replace q:aR H2 H3 b bs:=q
    have d3:=d2.trans q
    clear q
    simp only[EZ,ag,Nat.reduceAdd,Nat.reduceBEq,gy,cV,aF,aP,ER,EF,EA,ae,an]
    have fin:=flat ⟨2,0,0,IntKind.i64.wrap (1+qq),⟨#[]⟩,[],y,0,⟨0,0,0⟩⟩ H3 rfl (Nat.zero_le _) d3
    first|exact⟨rfl,fin⟩|exact fin
  by_cases k1:x=1
  · simp only[EZ,ag,Nat.reduceAdd,Nat.reduceBEq,gy,cV,aF,aP,ER,EF,EA,ae,an,decide_eq_false k0,decide_eq_true k1]
    refine ah.ref (by simp only[EO]) (aW _ hb d2.cur _) ?_
    rintro _ H3 ⟨y,rfl,_,_,q⟩
    replace q:aR H2 H3 b bs:=q
    have d3:=d2.trans q
    clear q
    simp only[EZ,ag,Nat.reduceAdd,Nat.reduceBEq,gy,cV,aF,aP,ER,EF,EA,ae,an]
    have fin:=flat ⟨IntKind.i64.wrap (3+y),0,0,IntKind.i64.wrap (1+qq),⟨#[]⟩,[],⟨0,0⟩,0,⟨0,0,0⟩⟩ H3 rfl (Nat.zero_le _) d3
    first|exact⟨rfl,fin⟩|exact fin
  by_cases k2:x=2
  · simp only[EZ,ag,Nat.reduceAdd,Nat.reduceBEq,gy,cV,aF,aP,ER,EF,EA,ae,an,decide_eq_false k0,decide_eq_false k1,decide_eq_true k2]
    refine ah.ref (by simp only[EO]) (aW _ hb d2.cur _) ?_
    rintro _ H3 ⟨y,rfl,_,_,q⟩
    replace q:aR H2 H3 b bs:=q
    have d3:=d2.trans q
    clear q
    simp only[EZ,ag,Nat.reduceAdd,Nat.reduceBEq,gy,cV,aF,aP,ER,EF,EA,ae,an]
    have fin:=flat ⟨6,IntKind.i64.wrap (1+qq),0,0,⟨#[]⟩,[],⟨0,0⟩,IntKind.i64.wrap (1+y),⟨0,0,0⟩⟩ H3 rfl (Nat.zero_le _) d3
    first|exact⟨rfl,fin⟩|exact fin
  simp only[EZ,ag,Nat.reduceAdd,Nat.reduceBEq,gy,cV,aF,aP,ER,EF,EA,ae,an,decide_eq_false k0,decide_eq_false k1,decide_eq_false k2]
  refine ah.ref (by simp only[EO]) (Hs _ hb d2.cur) ?_
  rintro _ H3 ⟨nm,rfl,hnm,q⟩
  replace q:aR H2 H3 b bs:=q
  have d3:=d2.trans q
  clear q
  simp only[EZ,ag,Nat.reduceAdd,Nat.reduceBEq,gy,cV,aF,aP,ER,EF,EA,ae,an]
  refine ah.ref (by simp only[EO]) (aW _ hb d3.cur _) ?_
  rintro _ H4 ⟨tv,rfl,_,_,q⟩
  replace q:aR H3 H4 b bs:=q
  have d4:=d3.trans q
  clear q
  simp only[EZ,ag,Nat.reduceAdd,Nat.reduceBEq,gy,cV,aF,aP,ER,EF,EA,ae,an]
  refine ah.ref (by simp only[EO]) (aW _ hb d4.cur _) ?_
  rintro _ H5 ⟨te,rfl,_,_,q⟩
  replace q:aR H4 H5 b bs:=q
  have d5:=d4.trans q
  clear q
  simp only[EZ,ag,Nat.reduceAdd,Nat.reduceBEq,gy,cV,aF,aP,ER,EF,EA,ae,an]
  refine ah.ref (by simp only[EO]) (aW _ hb d5.cur _) ?_
  rintro _ H6 ⟨ts,rfl,_,_,q⟩
  replace q:aR H5 H6 b bs:=q
  have d6:=d5.trans q
  clear q
  simp only[EZ,ag,Nat.reduceAdd,Nat.reduceBEq,gy,cV,aF,aP,ER,EF,EA,ae,an]
  refine ah.ref (by simp only[EO]) (ru _ hb d6.cur _) ?_
  rintro _ H7 ⟨on,rfl,q⟩
  replace q:aR H6 H7 b bs:=q
  have d7:=d6.trans q
  clear q
  have LOOP:∀(pos ans:Int) (H8:AH),aR H H8 b bs→True:=fun _ _ _ _=>trivial
  cases on
  · simp only[EZ,ag,Nat.reduceAdd,Nat.reduceBEq,gy,cV,aF,aP,ER,EF,EA,ae,an]
    refine ah.ref (by simp only[EO]) (aW _ hb d7.cur _) ?_
    rintro _ H8 ⟨pp,rfl,_,_,q⟩
    replace q:aR H7 H8 b bs:=q
    have d8:=d7.trans q
    clear q
    simp only[EZ,ag,Nat.reduceAdd,Nat.reduceBEq,gy,cV,aF,aP,ER,EF,EA,ae,an]
    refine ah.ref (by simp only[EO]) (aW _ hb d8.cur _) ?_
    rintro _ H9 ⟨kC,rfl,n0,n1,q⟩
    replace q:aR H8 H9 b bs:=q
    have d9:=d8.trans q
    clear q
    replace n1:=n1 (by omega)
    obtain⟨k0',rfl⟩:∃k0':Nat,kC=k0':=⟨kC.toNat,by omega⟩
    simp only[EZ,ag,Nat.reduceAdd,Nat.reduceBEq,gy,cV,aF,aP,ER,EF,EA,ae,an]
    refine dD aJ aK [] (fun y:Nat×AV×AH×List Nat×List aV=>y.1+y.2.2.2.2.length≤3∧bN y.2.2.1 y.2.1 (.sl 2 (y.2.2.2.2.map aV.cd)) y.2.2.2.1∧y.2.2.2.1.Nodup∧(∀c∈y.2.2.2.1,H.length≤c)∧aR H y.2.2.1 b bs) (fun y=>y.1)
      (fun y=>sg (.gp b 0 0) (.lp ([]:List (List AV)).length 0) (.lp (([]:List (List AV)).length+1) 0) (.int .i64 y.1) (LL [.int .i64 0,.int .i64 0,.int .i64 0,.int .i64 0,.str ⟨#[]⟩,.nils,.int .i64 0,.int .i64 0,.int .i64 0,.int .i64 0,.int .i64 0,.int .i64 0] (cZ ⟨1,IntKind.i64.wrap (1+pp),0,IntKind.i64.wrap (1+qq),nm,[],⟨0,0⟩,0,⟨IntKind.i64.wrap (1+tv),te,IntKind.i64.wrap (1+ts)⟩⟩ y.2.1) []) y.2.2.1) (k0',.nils,H9,[],[]) ⟨by simp only[List.length_nil];omega,.nil _,List.nodup_nil,(fun c hc=>by cases hc),d9⟩ ⟨by simp[sg,eP,eM],rfl,rfl⟩ ?_
    rintro⟨k,w,Hi,fp,args⟩ ⟨hk,ow,nw,bw,di⟩
    simp only at hk ow nw bw di
    obtain⟨w1,w2,w3,w4⟩:=ow.cell
    simp only[EZ,ag,Nat.reduceAdd,Nat.reduceBEq,gy,cV,aF,aP,ER,EF,EA,ae,an,sg,cZ]
    refine bI (fun hgt=>?_) (fun hge=>?_)
    rotate_left
    · have st0:∀(e:List AV) (h:AH) (c:List AV),c.length=12→c.all bK=true→(St.mk e (LL [.int .i64 0,.int .i64 0,.int .i64 0,.int .i64 0,.str ⟨#[]⟩,.nils,.int .i64 0,.int .i64 0,.int .i64 0,.int .i64 0,.int .i64 0,.int .i64 0] c []) h).store (.lp (([]:List (List AV)).length) 0) c=some ⟨e,LL c c [],h⟩:=fun e h c hc ha=>by
        have:=tG (e:=e) (h:=h) (row:=c) (X:=[]) (c0:=[.int .i64 0,.int .i64 0,.int .i64 0,.int .i64 0,.str ⟨#[]⟩,.nils,.int .i64 0,.int .i64 0,.int .i64 0,.int .i64 0,.int .i64 0,.int .i64 0]) (off:=0) (vs:=c) (by simp[hc]) ha
        rw[this];congr 2;simp[cB,hc]
      have st0':=fun e h=>st0 e h (cZ ⟨1,IntKind.i64.wrap (1+pp),0,IntKind.i64.wrap (1+qq),nm,[],⟨0,0⟩,0,⟨IntKind.i64.wrap (1+tv),te,IntKind.i64.wrap (1+ts)⟩⟩ w) rfl (by simp only[cZ,List.all_cons,List.all_nil,w2];rfl)
      simp only[cZ]at st0'
      simp only[EZ,ag,Nat.reduceAdd,Nat.reduceBEq,gy,cV,aF,aP,ER,EF,EA,ae,an,cg,aY,w1,w2,w3,st0']
      have fin:∃row,(AV.agg (cZ ⟨1,IntKind.i64.wrap (1+pp),0,IntKind.i64.wrap (1+qq),nm,args,⟨0,0⟩,0,⟨IntKind.i64.wrap (1+tv),te,IntKind.i64.wrap (1+ts)⟩⟩ w))=.agg row∧EN H b bs row Hi:=⟨_,rfl,_,w,fp,rfl,ow,nw,bw,by show args.length≤3;omega,hnm,di⟩
      first|exact⟨rfl,fin⟩|exact fin|exact⟨by simp only[c7,EO,w3,w4],fin⟩
    have hgt:0<k:=by simp at hgt;omega
    obtain⟨m2,rfl⟩:∃m2,k=m2+1:=⟨k-1,by omega⟩
    simp only[EZ,ag,Nat.reduceAdd,Nat.reduceBEq,gy,cV,aF,aP,ER,EF,EA,ae,an,cg,aY,w1,w2,w3]
    refine ah.ref (by simp only[EO]) (xg _ hb di.cur) ?_
    rintro _ Hj ⟨y,rfl,q⟩
    replace q:aR Hi Hj b bs:=q
    refine⟨eN rfl,?_⟩
    have hbi:=di.len
    have ow2:bN Hj w (.sl 2 (args.map aV.cd)) fp:=q.own ow (fun h=>by have:=bw b h;obtain⟨_,_,_,hg⟩:=hc;have:=c5 hg;omega)
    obtain⟨v',H4',fp',ea,o',nd',hf',hl',hm'⟩:=dw (bytes:=16) ow2 (ys:=[.int .i64 y.kind,.int .i64 y.n]) (row:=y.cd) (f2:=[]) (by simpa using nw) (by omega) rfl (.i (.i .nil)) (by simp only[List.length_map,aU];omega)
    obtain⟨p1,p2,p3,p4⟩:=o'.cell
    have s1:∀(e:List AV) (h:AH),(St.mk e (LL [.int .i64 0,.int .i64 0,.int .i64 0,.int .i64 0,.str ⟨#[]⟩,.nils,.int .i64 0,.int .i64 0,.int .i64 0,.int .i64 0,.int .i64 0,.int .i64 0] (cZ ⟨1,IntKind.i64.wrap (1+pp),0,IntKind.i64.wrap (1+qq),nm,[],⟨0,0⟩,0,⟨IntKind.i64.wrap (1+tv),te,IntKind.i64.wrap (1+ts)⟩⟩ w) []) h).store (.lp (([]:List (List AV)).length+1) 5) [v']=some ⟨e,LL [.int .i64 0,.int .i64 0,.int .i64 0,.int .i64 0,.str ⟨#[]⟩,.nils,.int .i64 0,.int .i64 0,.int .i64 0,.int .i64 0,.int .i64 0,.int .i64 0] (cZ ⟨1,IntKind.i64.wrap (1+pp),0,IntKind.i64.wrap (1+qq),nm,[],⟨0,0⟩,0,⟨IntKind.i64.wrap (1+tv),te,IntKind.i64.wrap (1+ts)⟩⟩ v') [],h⟩:=fun e h=>Ea (by simp[cZ]) (by simp[p2])
    simp only[cZ]at s1
    simp only[EZ,ag,Nat.reduceAdd,Nat.reduceBEq,gy,cV,aF,aP,ER,EF,EA,ae,an,cg,aY,w1,w2,w3,ea,p1,p2,p3,s1]
    have dn:=di.trans q
    have hln:=dn.len
    have dx:aR H H4' b bs:=⟨by
      obtain⟨i,s,hi,hgt⟩:=dn.cur
      exact⟨i,s,hi,by rw[bO (hf' b (fun h=>by have:=bw b h;obtain⟨_,_,_,hg⟩:=hc;have:=c5 hg;omega) (c5 hgt))];exact hgt⟩,by omega,fun c h1 h2=>by rw[hf' c (fun g=>by have:=bw c g;omega) (by omega),dn.fr c h1 h2]⟩
    exact⟨(m2,v',H4',fp',args++[y]),⟨by simp only[List.length_append,List.length_cons,List.length_nil]at hk ⊢;omega,by simpa using o',nd',fun c hc=>by
      rcases hm' c hc with g|g|g
      · exact bw c g
      · cases g
      · omega,dx⟩,by simp only;omega,⟨by rw[DA (by omega)];simp[eP,eM],rfl,rfl⟩⟩
  · simp only[EZ,ag,Nat.reduceAdd,Nat.reduceBEq,gy,cV,aF,aP,ER,EF,EA,ae,an]
    refine ah.ref (by simp only[EO]) (aW _ hb d7.cur _) ?_
    rintro _ H8 ⟨pp,rfl,_,_,q⟩
    replace q:aR H7 H8 b bs:=q
    have d8:=d7.trans q
    clear q
    simp only[EZ,ag,Nat.reduceAdd,Nat.reduceBEq,gy,cV,aF,aP,ER,EF,EA,ae,an]
    refine ah.ref (by simp only[EO]) (aW _ hb d8.cur _) ?_
    rintro _ H9 ⟨kC,rfl,n0,n1,q⟩
    replace q:aR H8 H9 b bs:=q
    have d9:=d8.trans q
    clear q
    replace n1:=n1 (by omega)
    obtain⟨k0',rfl⟩:∃k0':Nat,kC=k0':=⟨kC.toNat,by omega⟩
    simp only[EZ,ag,Nat.reduceAdd,Nat.reduceBEq,gy,cV,aF,aP,ER,EF,EA,ae,an]
    refine dD aJ aK [] (fun y:Nat×AV×AH×List Nat×List aV=>y.1+y.2.2.2.2.length≤3∧bN y.2.2.1 y.2.1 (.sl 2 (y.2.2.2.2.map aV.cd)) y.2.2.2.1∧y.2.2.2.1.Nodup∧(∀c∈y.2.2.2.1,H.length≤c)∧aR H y.2.2.1 b bs) (fun y=>y.1)
      (fun y=>sg (.gp b 0 0) (.lp ([]:List (List AV)).length 0) (.lp (([]:List (List AV)).length+1) 0) (.int .i64 y.1) (LL [.int .i64 0,.int .i64 0,.int .i64 0,.int .i64 0,.str ⟨#[]⟩,.nils,.int .i64 0,.int .i64 0,.int .i64 0,.int .i64 0,.int .i64 0,.int .i64 0] (cZ ⟨1,0,IntKind.i64.wrap (1+pp),IntKind.i64.wrap (1+qq),nm,[],⟨0,0⟩,0,⟨IntKind.i64.wrap (1+tv),te,IntKind.i64.wrap (1+ts)⟩⟩ y.2.1) []) y.2.2.1) (k0',.nils,H9,[],[]) ⟨by simp only[List.length_nil];omega,.nil _,List.nodup_nil,(fun c hc=>by cases hc),d9⟩ ⟨by simp[sg,eP,eM],rfl,rfl⟩ ?_
    rintro⟨k,w,Hi,fp,args⟩ ⟨hk,ow,nw,bw,di⟩
    simp only at hk ow nw bw di
    obtain⟨w1,w2,w3,w4⟩:=ow.cell
    simp only[EZ,ag,Nat.reduceAdd,Nat.reduceBEq,gy,cV,aF,aP,ER,EF,EA,ae,an,sg,cZ]
    refine bI (fun hgt=>?_) (fun hge=>?_)
    rotate_left
    · have st0:∀(e:List AV) (h:AH) (c:List AV),c.length=12→c.all bK=true→(St.mk e (LL [.int .i64 0,.int .i64 0,.int .i64 0,.int .i64 0,.str ⟨#[]⟩,.nils,.int .i64 0,.int .i64 0,.int .i64 0,.int .i64 0,.int .i64 0,.int .i64 0] c []) h).store (.lp (([]:List (List AV)).length) 0) c=some ⟨e,LL c c [],h⟩:=fun e h c hc ha=>by
        have:=tG (e:=e) (h:=h) (row:=c) (X:=[]) (c0:=[.int .i64 0,.int .i64 0,.int .i64 0,.int .i64 0,.str ⟨#[]⟩,.nils,.int .i64 0,.int .i64 0,.int .i64 0,.int .i64 0,.int .i64 0,.int .i64 0]) (off:=0) (vs:=c) (by simp[hc]) ha
        rw[this];congr 2;simp[cB,hc]
      have st0':=fun e h=>st0 e h (cZ ⟨1,0,IntKind.i64.wrap (1+pp),IntKind.i64.wrap (1+qq),nm,[],⟨0,0⟩,0,⟨IntKind.i64.wrap (1+tv),te,IntKind.i64.wrap (1+ts)⟩⟩ w) rfl (by simp only[cZ,List.all_cons,List.all_nil,w2];rfl)
      simp only[cZ]at st0'
      simp only[EZ,ag,Nat.reduceAdd,Nat.reduceBEq,gy,cV,aF,aP,ER,EF,EA,ae,an,cg,aY,w1,w2,w3,st0']
      have fin:∃row,(AV.agg (cZ ⟨1,0,IntKind.i64.wrap (1+pp),IntKind.i64.wrap (1+qq),nm,args,⟨0,0⟩,0,⟨IntKind.i64.wrap (1+tv),te,IntKind.i64.wrap (1+ts)⟩⟩ w))=.agg row∧EN H b bs row Hi:=⟨_,rfl,_,w,fp,rfl,ow,nw,bw,by show args.length≤3;omega,hnm,di⟩
      first|exact⟨rfl,fin⟩|exact fin|exact⟨by simp only[c7,EO,w3,w4],fin⟩
    have hgt:0<k:=by simp at hgt;omega
    obtain⟨m2,rfl⟩:∃m2,k=m2+1:=⟨k-1,by omega⟩
    simp only[EZ,ag,Nat.reduceAdd,Nat.reduceBEq,gy,cV,aF,aP,ER,EF,EA,ae,an,cg,aY,w1,w2,w3]
    refine ah.ref (by simp only[EO]) (xg _ hb di.cur) ?_
    rintro _ Hj ⟨y,rfl,q⟩
    replace q:aR Hi Hj b bs:=q
    refine⟨eN rfl,?_⟩
    have hbi:=di.len
    have ow2:bN Hj w (.sl 2 (args.map aV.cd)) fp:=q.own ow (fun h=>by have:=bw b h;obtain⟨_,_,_,hg⟩:=hc;have:=c5 hg;omega)
    obtain⟨v',H4',fp',ea,o',nd',hf',hl',hm'⟩:=dw (bytes:=16) ow2 (ys:=[.int .i64 y.kind,.int .i64 y.n]) (row:=y.cd) (f2:=[]) (by simpa using nw) (by omega) rfl (.i (.i .nil)) (by simp only[List.length_map,aU];omega)
    obtain⟨p1,p2,p3,p4⟩:=o'.cell
    have s1:∀(e:List AV) (h:AH),(St.mk e (LL [.int .i64 0,.int .i64 0,.int .i64 0,.int .i64 0,.str ⟨#[]⟩,.nils,.int .i64 0,.int .i64 0,.int .i64 0,.int .i64 0,.int .i64 0,.int .i64 0] (cZ ⟨1,0,IntKind.i64.wrap (1+pp),IntKind.i64.wrap (1+qq),nm,[],⟨0,0⟩,0,⟨IntKind.i64.wrap (1+tv),te,IntKind.i64.wrap (1+ts)⟩⟩ w) []) h).store (.lp (([]:List (List AV)).length+1) 5) [v']=some ⟨e,LL [.int .i64 0,.int .i64 0,.int .i64 0,.int .i64 0,.str ⟨#[]⟩,.nils,.int .i64 0,.int .i64 0,.int .i64 0,.int .i64 0,.int .i64 0,.int .i64 0] (cZ ⟨1,0,IntKind.i64.wrap (1+pp),IntKind.i64.wrap (1+qq),nm,[],⟨0,0⟩,0,⟨IntKind.i64.wrap (1+tv),te,IntKind.i64.wrap (1+ts)⟩⟩ v') [],h⟩:=fun e h=>Ea (by simp[cZ]) (by simp[p2])
    simp only[cZ]at s1
    simp only[EZ,ag,Nat.reduceAdd,Nat.reduceBEq,gy,cV,aF,aP,ER,EF,EA,ae,an,cg,aY,w1,w2,w3,ea,p1,p2,p3,s1]
    have dn:=di.trans q
    have hln:=dn.len
    have dx:aR H H4' b bs:=⟨by
      obtain⟨i,s,hi,hgt⟩:=dn.cur
      exact⟨i,s,hi,by rw[bO (hf' b (fun h=>by have:=bw b h;obtain⟨_,_,_,hg⟩:=hc;have:=c5 hg;omega) (c5 hgt))];exact hgt⟩,by omega,fun c h1 h2=>by rw[hf' c (fun g=>by have:=bw c g;omega) (by omega),dn.fr c h1 h2]⟩
    exact⟨(m2,v',H4',fp',args++[y]),⟨by simp only[List.length_append,List.length_cons,List.length_nil]at hk ⊢;omega,by simpa using o',nd',fun c hc=>by
      rcases hm' c hc with g|g|g
      · exact bw c g
      · cases g
      · omega,dx⟩,by simp only;omega,⟨by rw[DA (by omega)];simp[eP,eM],rfl,rfl⟩⟩
end Go.Proofs.YtccjhmhkfnnmaaaGreat
