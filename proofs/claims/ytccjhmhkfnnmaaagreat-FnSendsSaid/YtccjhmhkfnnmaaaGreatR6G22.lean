import Derived.Test.YtccjhmhkfnnmaaaGreatR6G21
import Derived.Test.YtccjhmhkfnnmaaaGreatR6G19
import Derived.Test.YtccjhmhkfnnmaaaGreatR6G14
set_option linter.unusedVariables false
set_option linter.unusedSimpArgs false
namespace Go.Proofs.YtccjhmhkfnnmaaaGreat
open Go.AM
variable {Γ:bY}
def jZ(v:ar)(s:aM)(peer pos:Int):Option Int→ar
  | none=>if cQ v s peer=true then dH v s peer pos 0 else rW v s.result aR
  | some t=>if cQ v s peer=true then fP (dH v s peer pos (aA v t).pos) t.toNat (eI (aA (dH v s peer pos (aA v t).pos) t))else rW v s.result aR
theorem EG{v:ar}{s:aM}{peer pos:Int}(h:cQ v s peer=false)(t:Option Int):jZ v s peer pos t=rW v s.result aR:=by cases t<;>simp[jZ,h]
theorem DG{α β:Type}{f:α→β}{q:β→Bool}:∀{l l':List α},l'.map f=l.map f→gE (fun a=>q (f a)) l'=gE (fun a=>q (f a)) l:=by
  intro l l' h
  have e:∀l:List α,l.findIdx? (fun a=>q (f a))=(l.map f).findIdx? q:=fun l=>by rw[List.findIdx?_map];rfl
  unfold gE
  rw[e,e,h]
set_option maxHeartbeats 8000000 in
set_option maxRecDepth 100000 in
theorem HX(v:ar)(s:aM)(peer pos:Int)(hvi:VI v)(hs:s.ok 100)(hw:wV v+2+s.args.length≤500000)(hf:ql v s.result)(H:AH){b:Nat}{wE w2 wL w4:AV}{fE f2 fL f4:List Nat}(o:VO H b v wE w2 wL w4 fE f2 fL f4){am:List AV}{fs:List Nat}(os:aG H am s.cd fs)(ns:fs.Nodup)(ds:∀c∈fs,c∉eL fE f2 fL f4∧c≠b)
    (tt:Option Int) (aw0:AV) (haw:(tt=none∧aw0=.nilp)∨(∃t,tt=some t∧cO t v.entities.length=true∧t≠s.result∧dV 12 wE t=some aw0)):
    T Tryz.prog Γ Fn.LC [.gp b 0 0,.int .i64 peer,.int .i64 pos,aw0,.agg am] H fun r H'=>r=.tup []∧gg H b (fun c=>c∈eL fE f2 fL f4∨c∈fs) H' (jZ v s peer pos tt):=by
  obtain⟨wa,rfl,oa⟩:=ig os
  have hE:v.entities.length≤1048576:=by have:=hvi.ents;omega
  have hL:v.links.length≤1048576:=by have:=hvi.links;omega
  have hb:=o.hb
  have blt:=o.blt
  have vlt:=o.lt
  obtain⟨g1,g2,g3,g4⟩:=oa.cell
  have awo:bj aw0=true∧dY aw0=true∧cellsOf aw0=some [aw0]:=by
    rcases haw with⟨_,rfl⟩|⟨t,_,h1,_,h3⟩
    · exact⟨rfl,rfl,rfl⟩
    · obtain⟨k,hk,ek,_,_⟩:=cm h1
      obtain⟨bR,gR,nR,row,fR,iR,_⟩:=o.gG hk
      rw[←ek,h3]at iR;injection iR with iR;subst iR;exact⟨rfl,rfl,rfl⟩
  obtain⟨aw1,aw2,aw3⟩:=awo
  refine MD (au aC aD [] _ _ _ ?_)
  unfold IZ
  simp only[EZ,ag,Nat.reduceAdd,Nat.reduceBEq,gU,dc,aE,aO,ER,EF,g1,g2,g3]
  refine al.ref (by simp only[EO]) (xI v hL peer H hb o.own o.nodup) ?_
  rintro rl H0 ⟨⟨N0,hN⟩,hlk⟩
  replace hN:H0=H++N0:=hN
  have lHH:H.length≤H0.length:=by rw[hN];simp
  have fHH:∀c,c<H.length→H0[c]? = H[c]?:=fun c hc=>by rw[hN,List.getElem?_append_left hc]
  have o0:VO H0 b v wE w2 wL w4 fE f2 fL f4:=o.frame fun c hc=>fHH c (by rcases hc with g|g;exact vlt c g;rw[g];exact blt)
  have os0:aG H0 _ s.cd fs:=os.frame fun c hc=>fHH c (os.lt c hc)
  have oa0:b6 H0 wa _ fs:=oa.frame fun c hc=>fHH c (oa.lt c hc)
  have conv:∀H' v',gg H0 b (fun c=>c∈eL fE f2 fL f4∨c∈fs) H' v'→gg H b (fun c=>c∈eL fE f2 fL f4∨c∈fs) H' v':=fun H' v' u=>gg.trans (f1:=eL fE f2 fL f4) lHH (fun c hc=>.inl (.inl hc)) (fun c _ _ hl=>fHH c hl) u (fun c hc=>hc.elim .inl fun h=>.inr (.inl (.inr h)))
  have FAIL:cQ v s peer=false→T Tryz.prog Γ Fn.Ir [.gp b 0 0,.agg [.int .i64 s.target,.str s.name,wa,.int .i64 s.result,.int .i64 s.tag.vat,.int .i64 s.tag.entity,.int .i64 s.tag.seq]] H0 fun r H'=>r=.tup []∧gg H b (fun c=>c∈eL fE f2 fL f4∨c∈fs) H' (jZ v s peer pos tt):=fun h=>by
    rw[EG h]
    exact(Jb v s hE hf H0 o0.at os0).mono fun r H' ⟨h1,h2⟩=>⟨h1,conv _ _ (h2.mono fun c hc=>.inl hc)⟩
  rcases hlk with⟨hup,j,hj,ej,ik⟩|⟨hup,rfl⟩
  rotate_left
  · have no:cQ v s peer=false:=by simp[cQ,hup]
    simp only[EZ,ag,Nat.reduceAdd,Nat.reduceBEq,gU,dc,aE,aO,ER,EF,g1,g2,g3]
    refine⟨fun r hr n cs hc=>by rw[show r=22 by simpa using hr]at hc ⊢;exact hc,?_⟩
    refine al.ref (by simp only[EO]) (vt hE s.result o0) ?_
    rintro r h' ⟨_,e⟩
    replace e:h'=H0:=e
    subst e
    simp only[EZ,ag,Nat.reduceAdd,Nat.reduceBEq,gU,dc,aE,aO,ER,EF,EA,g1,g2,g3,an,ah]
    refine al.ref (by simp only[EO,g3,g4]) (FAIL no) ?_
    rintro _ H' ⟨rfl,fin⟩
    simp only[EZ,ag,Nat.reduceAdd,Nat.reduceBEq,gU,dc,aE,aO,ER,EF]
    first|exact⟨rfl,rfl,fin⟩|exact⟨rfl,fin⟩|trace_state
  obtain⟨bK,gK,nK,rowK,fK,iK,_⟩:=o0.pw hj
  have ik0:=ik
  rw[iK]at ik;injection ik with ik;subst ik
  simp only[EZ,ag,Nat.reduceAdd,Nat.reduceBEq,gU,dc,aE,aO,ER,EF,g1,g2,g3]
  refine⟨fun r hr n cs hc=>by rw[show r=22 by simpa using hr]at hc ⊢;exact hc,?_⟩
  refine al.ref (by simp only[EO]) (vt hE s.result o0) ?_
  rintro r h' ⟨⟨e1,i1⟩|⟨e1,rfl⟩,e⟩
  rotate_left
  · replace e:h'=H0:=e
    subst e
    have no:cQ v s peer=false:=by simp[cQ,e1]
    simp only[EZ,ag,Nat.reduceAdd,Nat.reduceBEq,gU,dc,aE,aO,ER,EF,EA,g1,g2,g3,an,ah]
    refine al.ref (by simp only[EO,g3,g4]) (FAIL no) ?_
    rintro _ H' ⟨rfl,fin⟩
    simp only[EZ,ag,Nat.reduceAdd,Nat.reduceBEq,gU,dc,aE,aO,ER,EF]
    first|exact⟨rfl,rfl,fin⟩|exact⟨rfl,fin⟩|trace_state
  replace e:h'=H0:=e
  subst e
  obtain⟨k,hk,ek,ek2,eA⟩:=cm e1
  obtain⟨r0,hr⟩:∃r0,r0=aA v s.result:=⟨_,rfl⟩
  rw[←hr]at eA
  obtain⟨bR,gR,preR,row,post,fR,iR,mR,lR,oR,nR,sR,bmR,bnR,_⟩:=o0.ou hk
  have i1':=i1
  rw[←ek,i1']at iR
  injection iR with iR
  subst iR
  rw[←eA]at oR
  obtain⟨wS,wQ,wA,fS,fQ,fA,rfl,rfl,oS,oQ,oA⟩:=cX oR
  obtain⟨x5,x6,x7,x8⟩:=oQ.cell
  have r0':∀(e:List AV) (L:List (List AV)),(St.mk e L h').cells (.gp bR gR (preR.length+0)) 1=some [.int .i64 r0.kind]:=fun e L=>mR.cells e L 0 1 (by simp)
  have r0'':∀(e:List AV) (L:List (List AV)),(St.mk e L h').cells (.gp bR gR preR.length) 1=some [.int .i64 r0.kind]:=r0'
  have r3':∀(e:List AV) (L:List (List AV)),(St.mk e L h').cells (.gp bR gR (preR.length+3)) 1=some [.int .i64 r0.state]:=fun e L=>mR.cells e L 3 1 (by simp)
  by_cases q1:r0.kind=2
  rotate_left
  · have no:cQ v s peer=false:=by rw[cQ,←hr,decide_eq_false q1];simp
    simp only[EZ,ag,Nat.reduceAdd,Nat.reduceBEq,gU,dc,aE,aO,ER,EF,EA,g1,g2,g3,an,ah,r0',r0'',r3',decide_eq_false q1]
    refine al.ref (by simp only[EO,g3,g4]) (FAIL no) ?_
    rintro _ H' ⟨rfl,fin⟩
    simp only[EZ,ag,Nat.reduceAdd,Nat.reduceBEq,gU,dc,aE,aO,ER,EF]
    first|exact⟨rfl,rfl,fin⟩|exact⟨rfl,fin⟩|trace_state
  by_cases q2:r0.state=1
  rotate_left
  · have no:cQ v s peer=false:=by rw[cQ,←hr,decide_eq_false q2];simp
    simp only[EZ,ag,Nat.reduceAdd,Nat.reduceBEq,gU,dc,aE,aO,ER,EF,EA,g1,g2,g3,an,ah,r0',r0'',r3',decide_eq_true q1,decide_eq_false q2]
    refine al.ref (by simp only[EO,g3,g4]) (FAIL no) ?_
    rintro _ H' ⟨rfl,fin⟩
    simp only[EZ,ag,Nat.reduceAdd,Nat.reduceBEq,gU,dc,aE,aO,ER,EF]
    first|exact⟨rfl,rfl,fin⟩|exact⟨rfl,fin⟩|trace_state
  have yes:cQ v s peer=true:=by rw[cQ,hup,e1,←hr,decide_eq_true q1,decide_eq_true q2];rfl
  have hq:r0.queue=[]:=by rw[hr];exact(hf (by rw[jv,e1,←hr];simp[ju,q1,q2])).1
  simp only[EZ,ag,Nat.reduceAdd,Nat.reduceBEq,gU,dc,aE,aO,ER,EF,EA,g1,g2,g3,an,ah,r0',r0'',r3',decide_eq_true q1,decide_eq_true q2]
  obtain⟨w1s,w1w,w1i⟩:=oB v s peer
  refine al.ref (by simp only[EO,g3,g4]) (Mb v hE hL hvi.FR peer s.args (by omega) h' o0 oa0 ns (fun c hc h=>(ds c hc).1 (aN.2 (.inr (.inr (.inl h)))))) ?_
  rintro ww H1 ⟨fL1,fw,o1,ow,nw,l1,m1,mw,r1⟩
  replace o1:VO H1 b (bV v s peer) wE w2 wL w4 fE f2 fL1 f4:=o1
  replace ow:b6 H1 ww _ fw:=ow
  replace l1:h'.length≤H1.length:=l1
  replace mw:∀c∈fw,h'.length≤c∧c∉fL1:=mw
  replace r1:∀c,c∉fL→c<h'.length→H1[c]? = h'[c]?:=r1
  replace m1:∀c∈fL1,c∈fL∨h'.length≤c:=m1
  obtain⟨h1,h2,h3,h4⟩:=ow.cell
  simp only[EZ,ag,Nat.reduceAdd,Nat.reduceBEq,gU,dc,aE,aO,ER,EF,EA,g1,g2,g3,an,ah]
  have hL1:(bV v s peer).links.length=v.links.length:=by rw[bV,(hM peer s.args v).2]
  have hj1:j<(bV v s peer).links.length:=by omega
  have lj:FH (bV v s peer) peer=j:=by
    have e1:gE (fun l:aB=>l.peer == peer) (bV v s peer).links=(j:Int):=by
      rw[←ej]
      have hm:=congrArg (List.map Prod.fst) (kc peer s.args v)
      simp only[List.map_map]at hm
      exact DG (f:=fun l:aB=>l.peer) (q:=fun n=>n == peer) (by simpa[bV,Function.comp_def]using hm)
    rw[FH,e1];rfl
  have lok1:=(w1i hvi).FR
  refine al.ref (by simp only[EO]) (MR o1 hj1 (by have:=(lok1 _ (List.getElem_mem hj1)).2.1;omega) ik0 s.result) ?_
  rintro _ H2 ⟨rfl,fL2,o2,l2,m2,r2⟩
  replace l2:H1.length≤H2.length:=l2
  replace m2:∀c∈fL2,c∈fL1∨H1.length≤c:=m2
  replace r2:∀c,c∉fL1→c<H1.length→H2[c]? = H1[c]?:=r2
  have hgl:(bV v s peer).links.getD j default=(bV v s peer).links[j]:=by rw[List.getD_eq_getElem?_getD,List.getElem?_eq_getElem hj1];rfl
  have ev2:({ bV v s peer with links:=(bV v s peer).links.set j (g7 (bV v s peer).links[j] s.result).1 }:ar)=iJ (bV v s peer) peer s.result:=by rw[iJ,lj,hgl];rfl
  have eq2:(g7 (bV v s peer).links[j] s.result).2=oK (bV v s peer) peer s.result:=by rw[oK,lj,hgl]
  replace o2:VO H2 b _ wE w2 wL w4 fE f2 fL2 f4:=o2
  rw[ev2]at o2
  rw[eq2]
  obtain⟨qq,hqq⟩:∃qq,qq=oK (bV v s peer) peer s.result:=⟨_,rfl⟩
  rw[←hqq]
  have sm:=w1s.trans (mD (bV v s peer) peer s.result).1
  have hk2:k<(iJ (bV v s peer) peer s.result).entities.length:=by rw[sm.ents];exact hk
  obtain⟨bR2,gR2,pre2,row2,post2,fR2,iR2,mR2,lR2,oR2,nR2,sR2,bmR2,bnR2,wr2⟩:=o2.ou hk2
  rw[←ek,i1']at iR2
  injection iR2 with iR2
  injection iR2 with ja jb jc
  subst ja jb
  have ent2:(iJ (bV v s peer) peer s.result).entities[k]=r0:=by
    have:(iJ (bV v s peer) peer s.result).entities=v.entities:=sm.ents
    simp only[this];exact eA.symm
  rw[ent2]at oR2
  obtain⟨wS2,wQ2,wA2,fS2,fQ2,fA2,rfl,rfl,oS2,oQ2,oA2⟩:=cX oR2
  rw[hq]at oQ2
  obtain⟨z5,z6,z7,z8⟩:=oQ2.cell
  obtain⟨_,lQ2⟩:=cP oQ2
  simp only[List.map_nil,List.length_nil]at lQ2
  have rq6:∀(e:List AV) (L:List (List AV)),(St.mk e L H2).cells (.gp bR gR (preR.length+6)) 1=some [wQ2]:=fun e L=>by rw[jc];exact mR2.cells e L 6 1 (by simp)
  obtain⟨Ha,sa,ma,la,fa⟩:=mR2.put 3 [.int .i64 3] (by simp) rfl
  obtain⟨Hb,sb,mb,lb,fb⟩:=ma.put 8 [.int .i64 peer] (by simp[cD]) rfl
  obtain⟨Hc,sc,mc,lc,fc⟩:=mb.put 9 [.int .i64 qq] (by simp[cD]) rfl
  obtain⟨Hd,sd,md,ld,fd⟩:=mc.put 10 [.int .i64 0] (by simp[cD]) rfl
  obtain⟨He,se,me,le,fe⟩:=md.put 6 [.nils] (by simp[cD]) rfl
  rw[←jc]at sa sb sc sd se
  replace me:kC He bR gR pre2 [.int .i64 r0.kind,.int .i64 r0.script,wS2,.int .i64 3,.int .i64 r0.value.kind,.int .i64 r0.value.n,.nils,wA2,.int .i64 peer,.int .i64 qq,.int .i64 0,.int .i64 r0.sent] post2:=me
  have fre:∀c,c≠bR→He[c]? = H2[c]?:=fun c hc=>by rw[fe c hc,fd c hc,fc c hc,fb c hc,fa c hc]
  obtain⟨nS2,nQA2,dS2⟩:=List.nodup_append.1 nR2
  have nA2:=(List.nodup_append.1 nQA2).2.1
  have owne:aG He [.int .i64 r0.kind,.int .i64 r0.script,wS2,.int .i64 3,.int .i64 r0.value.kind,.int .i64 r0.value.n,.nils,wA2,.int .i64 peer,.int .i64 qq,.int .i64 0,.int .i64 r0.sent] (hS r0 peer qq).cd (fS2++([]++fA2)):=hZ (e:=hS r0 peer qq) (oS2.frame fun c hc=>fre c (fun e=>bnR2 (e▸(by simp[hc])))) (.nil 7) (oA2.frame fun c hc=>fre c (fun e=>bnR2 (e▸(by simp[hc]))))
  obtain⟨fE7,o7,me7⟩:=wr2 He _ (hS r0 peer qq) (fS2++([]++fA2)) [] (by omega) (fun c hc=>by cases hc) me owne (by
    rw[List.nil_append]
    exact List.nodup_append.2 ⟨nS2,nA2,fun x hx y hy e=>dS2 x hx y (by simp[hy]) e⟩) (fun c hc=>.inl (by
      simp only[List.nil_append,List.mem_append]at hc ⊢
      exact hc.elim .inl fun h=>.inr (.inr h))) (fun c _ _ _ h=>fre c h)
  have ev7:({ iJ (bV v s peer) peer s.result with entities:=(iJ (bV v s peer) peer s.result).entities.set k (hS r0 peer qq) }:ar)=db v s peer:=by
    rw[db,hqq,←hr,ek2];rfl
  rw[ev7]at o7
  have hfE7:∀c∈fE7,c∈fE:=fun c hc=>by
    rcases me7 c hc with q|q
    · exact q.1
    · exact sR2 c (by
        simp only[List.nil_append,List.mem_append]at q ⊢
        exact q.elim .inl fun h=>.inr (.inr h))
  have ltw:∀c∈fw,c<H1.length:=ow.lt
  have bRlt:bR<h'.length:=o0.lt bR (aN.2 (.inl bmR))
  have fwe:∀c∈fw,He[c]? = H1[c]?:=fun c hc=>by
    rw[fre c (fun e=>by have:=(mw c hc).1;omega),r2 c (mw c hc).2 (ltw c hc)]
  have owe:b6 He ww (.sl 2 ((aL v peer s.args).2.map bW.cd)) fw:=ow.frame fwe
  have avi:VI (db v s peer):=by rw[db];exact j8 ((mD _ _ _).2.2 (w1i hvi)) _ _ ⟨(gj hvi s.result).1,fun x hx=>by simp[hS]at hx⟩
  have aout:(db v s peer).out=v.out:=(jN peer s.args v).2.2.1
  have hout:v.out.length≤wV v:=by unfold wV;omega
  have frH:∀c,c∉eL fE f2 fL f4→c<h'.length→He[c]? = h'[c]?:=fun c h1 h2=>by
    have a1:c∉fL:=fun h=>h1 (aN.2 (.inr (.inr (.inl h))))
    have a2:c∉fL1:=fun h=>by rcases m1 c h with g|g;exact a1 g;omega
    rw[fre c (fun e=>h1 (aN.2 (.inl (e▸bmR)))),r2 c a2 (by omega),r1 c a1 h2]
  have mF7:∀c∈eL fE7 f2 fL2 f4,c∈eL fE f2 fL f4∨h'.length≤c:=fun c hc=>by
    rcases aN.1 hc with g|g|g|g
    · exact .inl (aN.2 (.inl (hfE7 c g)))
    · exact .inl (aN.2 (.inr (.inl g)))
    · rcases m2 c g with q|q
      · exact(m1 c q).imp (fun h=>aN.2 (.inr (.inr (.inl h)))) id
      · exact .inr (by omega)
    · exact .inl (aN.2 (.inr (.inr (.inr g))))
  have fw7:∀c∈fw,c∉eL fE7 f2 fL2 f4∧c≠b:=fun c hc=>by
    have k1:=(mw c hc).1
    have k2:=ltw c hc
    refine⟨fun h=>?_,fun e=>by have:=o0.blt;omega⟩
    rcases aN.1 h with g|g|g|g
    · have:=o0.lt c (aN.2 (.inl (hfE7 c g)));omega
    · have:=o0.lt c (aN.2 (.inr (.inl g)));omega
    · rcases m2 c g with q|q
      · exact(mw c hc).2 q
      · omega
    · have:=o0.lt c (aN.2 (.inr (.inr (.inr g))));omega
  simp only[EZ,ag,Nat.reduceAdd,Nat.reduceBEq,gU,dc,aE,aO,ER,EF,EA,g1,g2,g3,an,ah,h1,h2,h3,rq6,z5,z6,z7,sa,sb,sc,sd,se]
  rcases haw with⟨rfl,rfl⟩|⟨t,rfl,ht,hne,it⟩
  · have yf:jZ v s peer pos none=fF (db v s peer) peer (gb s pos 0 qq (aL v peer s.args).2):=by
      simp only[jZ,yes,if_true];rw[dH,hqq]
    have oweX:=owe
    have aviX:(db v s peer).links.length≤1048576∧(db v s peer).out=v.out:=⟨by have:=avi.links;omega,aout⟩
    have oX:=o7
    have fwX:=fw7
    have mFX:=mF7
    have frX:=frH
    simp only[EZ,ag,Nat.reduceAdd,Nat.reduceBEq,gU,dc,aE,aO,ER,EF,EA,g1,g2,g3,an,ah,h1,h2,h3]
    have omsg:aG He [.int .i64 1,.int .i64 pos,.int .i64 0,.int .i64 qq,.str s.name,ww,.int .i64 0,.int .i64 0,.int .i64 0,.int .i64 s.tag.vat,.int .i64 s.tag.entity,.int .i64 s.tag.seq] (gb s pos 0 qq (aL v peer s.args).2).cd fw:=by
      have e':fw=fw++[]:=by simp
      rw[e']
      exact .i (.i (.i (.i (.s (.o oweX (.i (.i (.i (.i (.i (.i .nil)))))))))))
    refine al.ref (by simp only[EO,h3,h4]) (Ja (db v s peer) aviX.1 (by rw[aviX.2];omega) peer (gb s pos 0 qq (aL v peer s.args).2) He oX.at omsg nw fwX) ?_
    rintro _ H8 ⟨rfl,f8,o8,l8,m8,r8⟩
    replace o8:kt H8 b (fF (db v s peer) peer (gb s pos 0 qq (aL v peer s.args).2)) f8:=o8
    replace l8:He.length≤H8.length:=l8
    replace m8:∀c∈f8,(c∈eL fE7 f2 fL2 f4∨c∈fw)∨He.length≤c:=m8
    replace r8:∀c,¬(c∈eL fE7 f2 fL2 f4∨c∈fw)→c≠b→c<He.length→H8[c]? = He[c]?:=r8
    rw[←yf]at o8
    have fin0:gg h' b (fun c=>c∈eL fE f2 fL f4∨c∈fs) H8 _:=⟨f8,o8,by omega,fun c hc=>by
      rcases m8 c hc with(g|g)|g
      · exact(mFX c g).imp .inl id
      · exact .inr (mw c g).1
      · exact .inr (by omega),fun c h1 h2 h3=>by
      have h1':c∉eL fE f2 fL f4:=fun h=>h1 (.inl h)
      rw[r8 c (fun h=>by
        rcases h with g|g
        · rcases mFX c g with q|q
          · exact h1' q
          · omega
        · have:=(mw c g).1;omega) h2 (by omega),frX c h1' h3]⟩
    have fin:=conv _ _ fin0
    simp only[EZ,ag,Nat.reduceAdd,Nat.reduceBEq,gU,dc,aE,aO,ER,EF,z5,z6,z7,lQ2]
    refine et aC aD [] (fun _:Unit=>True) (fun _=>0) (fun _=>qW (.gp b 0 0) wQ2 (.int .i64 ((0:Nat):Int)) (.int .i64 0) _ H8) () trivial ⟨by simp[qW,fY,fO],rfl,rfl⟩ ?_
    rintro _ _
    simp only[EZ,ag,Nat.reduceAdd,Nat.reduceBEq,gU,dc,qW,aE,aO,ER,EF]
    refine bP (fun hgt=>absurd hgt (by simp)) (fun hge=>?_)
    simp only[EZ,ag,Nat.reduceAdd,Nat.reduceBEq,gU,dc,aE,aO,ER,EF]
    first|exact⟨rfl,rfl,fin⟩|exact⟨rfl,fin⟩|trace_state
  · obtain⟨k3,hk3,ek3,ek3',eA3⟩:=cm ht
    have hkk:k≠k3:=fun e=>hne (by rw[ek,ek3,e])
    obtain⟨eT,heT⟩:∃eT,eT=aA v t:=⟨_,rfl⟩
    rw[←heT]at eA3
    have ents:(db v s peer).entities=(iJ (bV v s peer) peer s.result).entities.set k (hS r0 peer qq):=by rw[←ev7]
    have hk4:k3<(db v s peer).entities.length:=by rw[ents,List.length_set,sm.ents];exact hk3
    have eT3:(db v s peer).entities[k3]=eT:=by
      have h1:(db v s peer).entities[k3]? = some eT:=by
        rw[ents,List.getElem?_set_ne hkk,show(iJ (bV v s peer) peer s.result).entities=v.entities from sm.ents,List.getElem?_eq_getElem hk3,eA3]
      rw[List.getElem?_eq_getElem hk4]at h1
      exact Option.some.inj h1
    obtain⟨bT,gT,pre3,row3,post3,fR3,iR3,mR3,lR3,oR3,nR3,sR3,bmR3,bnR3,wr3⟩:=o7.ou hk4
    rw[←ek3,it]at iR3
    injection iR3 with iR3
    subst iR3
    rw[eT3]at oR3
    obtain⟨wS3,wQ3,wA3,fS3,fQ3,fA3,rfl,rfl,oS3,oQ3,oA3⟩:=cX oR3
    have c9:∀(e:List AV) (L:List (List AV)),(St.mk e L He).cells (.gp bT gT (pre3.length+9)) 1=some [.int .i64 eT.pos]:=fun e L=>mR3.cells e L 9 1 (by simp)
    have c10:∀(e:List AV) (L:List (List AV)),(St.mk e L He).cells (.gp bT gT (pre3.length+10)) 1=some [.int .i64 eT.count]:=fun e L=>mR3.cells e L 10 1 (by simp)
    obtain⟨Hf,sf,mf,lf,ff⟩:=mR3.put 10 [.int .i64 (IntKind.i64.wrap (eT.count+1))] (by simp) rfl
    replace mf:kC Hf bT gT pre3 [.int .i64 eT.kind,.int .i64 eT.script,wS3,.int .i64 eT.state,.int .i64 eT.value.kind,.int .i64 eT.value.n,wQ3,wA3,.int .i64 eT.peer,.int .i64 eT.pos,.int .i64 (IntKind.i64.wrap (eT.count+1)),.int .i64 eT.sent] post3:=mf
    have ownf:aG Hf _ (eI eT).cd (fS3++(fQ3++fA3)):=hZ (e:=eI eT) (oS3.frame fun c hc=>ff c (fun e=>bnR3 (e▸(by simp[hc])))) (oQ3.frame fun c hc=>ff c (fun e=>bnR3 (e▸(by simp[hc])))) (oA3.frame fun c hc=>ff c (fun e=>bnR3 (e▸(by simp[hc]))))
    obtain⟨fE8,oX,me8⟩:=wr3 Hf _ (eI eT) (fS3++(fQ3++fA3)) [] (by omega) (fun c hc=>by cases hc) mf ownf nR3 (fun c hc=>.inl hc) (fun c _ _ _ h=>ff c h)
    have ev8:({ db v s peer with entities:=(db v s peer).entities.set k3 (eI eT) }:ar)=fP (db v s peer) t.toNat (eI eT):=by rw[fP,ek3']
    rw[ev8]at oX
    have hfE8:∀c∈fE8,c∈fE7:=fun c hc=>by
      rcases me8 c hc with q|q
      · exact q.1
      · exact sR3 c q
    have sub8:∀c∈eL fE8 f2 fL2 f4,c∈eL fE7 f2 fL2 f4:=fun c hc=>by
      rcases aN.1 hc with g|g|g|g
      · exact aN.2 (.inl (hfE8 c g))
      · exact aN.2 (.inr (.inl g))
      · exact aN.2 (.inr (.inr (.inl g)))
      · exact aN.2 (.inr (.inr (.inr g)))
    have bTE:bT∈eL fE f2 fL f4:=aN.2 (.inl (hfE7 bT bmR3))
    have pc:∀(v:ar) (n:Nat) (e:aq) (p:Int) (m:bm),fF (fP v n e) p m=fP (fF v p m) n e:=fun v n e p m=>by
      unfold fF fP
      split<;>rfl
    have yf:jZ v s peer pos (some t)=fF (fP (db v s peer) t.toNat (eI eT)) peer (gb s pos eT.pos qq (aL v peer s.args).2):=by
      have en:aA (dH v s peer pos (aA v t).pos) t=eT:=by
        rw[dH,(jD _ _ _).1.aA,aA,ek3',List.getD_eq_getElem?_getD,List.getElem?_eq_getElem hk4,eT3];rfl
      simp only[jZ,yes,if_true]
      rw[en,pc,dH,hqq,heT]
    have oweX:b6 Hf ww (.sl 2 ((aL v peer s.args).2.map bW.cd)) fw:=owe.frame fun c hc=>ff c (fun e=>by have:=(mw c hc).1;have:=o0.lt bT bTE;omega)
    have aviX:(fP (db v s peer) t.toNat (eI eT)).links.length≤1048576∧(fP (db v s peer) t.toNat (eI eT)).out=v.out:=⟨by have:=avi.links;show(db v s peer).links.length≤_;omega,aout⟩
    have fwX:∀c∈fw,c∉eL fE8 f2 fL2 f4∧c≠b:=fun c hc=>⟨fun h=>(fw7 c hc).1 (sub8 c h),(fw7 c hc).2⟩
    have mFX:∀c∈eL fE8 f2 fL2 f4,c∈eL fE f2 fL f4∨h'.length≤c:=fun c hc=>mF7 c (sub8 c hc)
    have frX:∀c,c∉eL fE f2 fL f4→c<h'.length→Hf[c]? = h'[c]?:=fun c h1 h2=>by rw[ff c (fun e=>h1 (e▸bTE)),frH c h1 h2]
    simp only[EZ,ag,Nat.reduceAdd,Nat.reduceBEq,gU,dc,aE,aO,ER,EF,EA,g1,g2,g3,an,ah,h1,h2,h3,c9,c10,sf]
    have omsg:aG Hf [.int .i64 1,.int .i64 pos,.int .i64 eT.pos,.int .i64 qq,.str s.name,ww,.int .i64 0,.int .i64 0,.int .i64 0,.int .i64 s.tag.vat,.int .i64 s.tag.entity,.int .i64 s.tag.seq] (gb s pos eT.pos qq (aL v peer s.args).2).cd fw:=by
      have e':fw=fw++[]:=by simp
      rw[e']
      exact .i (.i (.i (.i (.s (.o oweX (.i (.i (.i (.i (.i (.i .nil)))))))))))
    refine al.ref (by simp only[EO,h3,h4]) (Ja (fP (db v s peer) t.toNat (eI eT)) aviX.1 (by rw[aviX.2];omega) peer (gb s pos eT.pos qq (aL v peer s.args).2) Hf oX.at omsg nw fwX) ?_
    rintro _ H8 ⟨rfl,f8,o8,l8,m8,r8⟩
    replace o8:kt H8 b (fF (fP (db v s peer) t.toNat (eI eT)) peer (gb s pos eT.pos qq (aL v peer s.args).2)) f8:=o8
    replace l8:Hf.length≤H8.length:=l8
    replace m8:∀c∈f8,(c∈eL fE8 f2 fL2 f4∨c∈fw)∨Hf.length≤c:=m8
    replace r8:∀c,¬(c∈eL fE8 f2 fL2 f4∨c∈fw)→c≠b→c<Hf.length→H8[c]? = Hf[c]?:=r8
    rw[←yf]at o8
    have fin0:gg h' b (fun c=>c∈eL fE f2 fL f4∨c∈fs) H8 _:=⟨f8,o8,by omega,fun c hc=>by
      rcases m8 c hc with(g|g)|g
      · exact(mFX c g).imp .inl id
      · exact .inr (mw c g).1
      · exact .inr (by omega),fun c h1 h2 h3=>by
      have h1':c∉eL fE f2 fL f4:=fun h=>h1 (.inl h)
      rw[r8 c (fun h=>by
        rcases h with g|g
        · rcases mFX c g with q|q
          · exact h1' q
          · omega
        · have:=(mw c g).1;omega) h2 (by omega),frX c h1' h3]⟩
    have fin:=conv _ _ fin0
    simp only[EZ,ag,Nat.reduceAdd,Nat.reduceBEq,gU,dc,aE,aO,ER,EF,z5,z6,z7,lQ2]
    refine et aC aD [] (fun _:Unit=>True) (fun _=>0) (fun _=>qW (.gp b 0 0) wQ2 (.int .i64 ((0:Nat):Int)) (.int .i64 0) _ H8) () trivial ⟨by simp[qW,fY,fO],rfl,rfl⟩ ?_
    rintro _ _
    simp only[EZ,ag,Nat.reduceAdd,Nat.reduceBEq,gU,dc,qW,aE,aO,ER,EF]
    refine bP (fun hgt=>absurd hgt (by simp)) (fun hge=>?_)
    simp only[EZ,ag,Nat.reduceAdd,Nat.reduceBEq,gU,dc,aE,aO,ER,EF]
    first|exact⟨rfl,rfl,fin⟩|exact⟨rfl,fin⟩|trace_state
end Go.Proofs.YtccjhmhkfnnmaaaGreat
namespace Go.Proofs.YtccjhmhkfnnmaaaGreat
open Go.AM
variable {Γ:bY}
theorem zt(es:List aq):∀(n:Nat) (x:ae),jR es (kQ es n x)=none
  | 0,_=>kv (by simp[kQ,aR])
  | n+1,x=>by
    unfold kQ
    cases h:jR es x with
    | some y=>exact zt es n y
    | none=>exact h
theorem FJ{v:ar}{x:ae}(h1:(cg v x).kind=1)(h2:cO (cg v x).n v.entities.length=true):¬((aA v (cg v x).n).kind=2∧(aA v (cg v x).n).state=2):=by
  obtain⟨k,hk,e1,_,e3⟩:=cm h2
  intro h
  have:=zt v.entities (v.entities.length+1) x
  rw[show kQ v.entities (v.entities.length+1) x=cg v x from rfl,pP h1 hk e1,←e3,if_pos h]at this
  cases this
theorem jX{D:ar→aM→ar}{v:ar}{s:aM}{peer pos ans:Int}(h:(aA v s.result).queue=[])(hc:cQ v s peer=true):fM D v s peer pos ans=dH v s peer pos ans:=by
  rw[fM,if_pos hc,h];rfl
set_option maxHeartbeats 8000000 in
set_option maxRecDepth 100000 in
theorem OH(n:Nat)(v:ar)(s:aM)(hvi:VI v)(hs:s.ok 100)(hw:wV v+2+s.args.length≤500000)(hq:(aA v s.result).queue=[])(ha:(aA v s.result).askers=[])(hst:(aA v s.result).state=1)(hki:KI v)(H:AH){b:Nat}{f:List Nat}(a:kt H b v f){am:List AV}{fs:List Nat}(os:aG H am s.cd fs)(ns:fs.Nodup)(ds:∀c∈fs,c∉f∧c≠b):
    T Tryz.prog Γ Fn.Ln [.gp b 0 0,.agg am] H fun r H'=>r=.tup []∧gg H b (fun c=>c∈f∨c∈fs) H' (aT (n+1) v s):=by
  obtain⟨wE,w2,wL,w4,fE,f2,fL,f4,rfl,o⟩:=a
  obtain⟨wa,rfl,oa⟩:=ig os
  have hE:v.entities.length≤1048576:=by have:=hvi.ents;omega
  have hloop:=hvi.loop
  have hf:ql v s.result:=fun _=>⟨hq,ha⟩
  have hb:=o.hb
  have blt:=o.blt
  have vlt:=o.lt
  have cb:∀(e:List AV) (L:List (List AV)) (off n:Nat),(St.mk e L H).cells (.gp b 0 off) n=sub [.int .i64 v.id,wE,w2,wL,w4] off n:=fun e L off n=>bp hb
  obtain⟨a1,a2,a3,a4⟩:=o.oE.cell
  obtain⟨b1,b2,b3,b4⟩:=o.o2.cell
  obtain⟨g1,g2,g3,g4⟩:=oa.cell
  obtain⟨_,lE⟩:=cP o.oE
  obtain⟨_,l2⟩:=cP o.o2
  rw[List.length_map]at lE l2
  obtain⟨y,hy⟩:∃y,y=iq v s:=⟨_,rfl⟩
  have hy':cg v ⟨1,s.target⟩=y:=by rw[hy];rfl
  have FAIL:∀(tg:Int),aT (n+1) v s=fZ (aT n) v s.result aR→T Tryz.prog Γ Fn.Ir [.gp b 0 0,.agg [.int .i64 tg,.str s.name,wa,.int .i64 s.result,.int .i64 s.tag.vat,.int .i64 s.tag.entity,.int .i64 s.tag.seq]] H fun r H'=>r=.tup []∧gg H b (fun c=>c∈eL fE f2 fL f4∨c∈fs) H' (aT (n+1) v s):=fun tg e=>by
    rw[e,k8 hf]
    exact(Jb v { s with target:=tg } hE hf H o.at (mP (s:={ s with target:=tg }) oa)).mono fun r H' ⟨h1,h2⟩=>⟨h1,h2.mono fun c hc=>.inl hc⟩
  refine O2 (au aC aD [] _ _ _ ?_)
  unfold IU
  simp only[EZ,ag,Nat.reduceAdd,Nat.reduceBEq,jy,fC,eM,fg,eQ,aE,aO,ER,EF,g1,g2,g3]
  refine al.val (by simp only[EO]) (xz _ _) ?_
  simp only[EZ,ag,Nat.reduceAdd,Nat.reduceBEq,jy,fC,eM,fg,eQ,aE,aO,ER,EF]
  refine al.fV (by simp only[EO,ae.c]) (aK (pz o) (aK (.same _) b8)) (fun h=>zO true v hE ⟨1,s.target⟩ h (Ptr.ip h true _)) (.agg _ (by intro z hz;simp only[ae.c,List.mem_cons,List.not_mem_nil,or_false]at hz;rcases hz with rfl|rfl<;>exact .int _ _)) ?_
  rw[hy']
  simp only[EZ,ag,Nat.reduceAdd,Nat.reduceBEq,jy,fC,eM,fg,eQ,aE,aO,ER,EF,ae.c]
  refine al.ref (by simp only[EO]) (Hm hE false y o) ?_
  rintro r h' ⟨⟨e1,i1⟩|⟨e1,rfl⟩,e⟩
  rotate_left
  · replace e:h'=H:=e
    subst e
    have ef:aT (n+1) v s=fZ (aT n) v s.result aR:=by rw[aT,←hy,if_neg (by rw[e1];simp)]
    simp only[EZ,ag,Nat.reduceAdd,Nat.reduceBEq,jy,fC,eM,fg,eQ,aE,aO,ER,EF,EA,cb,a1,a2,a3,b1,b2,b3,g1,g2,g3,lE,l2,an,ah,cK]
    refine al.ref (by simp only[EO,g3,g4]) (FAIL _ ef) ?_
    rintro _ H' ⟨rfl,fin⟩
    simp only[EZ,ag,Nat.reduceAdd,Nat.reduceBEq,jy,fC,eM,fg,eQ,aE,aO,ER,EF]
    first|exact⟨rfl,rfl,fin⟩|exact⟨rfl,fin⟩|trace_state
  replace e:h'=H:=e
  subst e
  have q1:y.kind=1:=by simpa using(Bool.and_eq_true_iff.1 e1).1
  have e2:=(Bool.and_eq_true_iff.1 e1).2
  obtain⟨k,hk,ek,ek2,eA⟩:=cm e2
  obtain⟨r0,hr⟩:∃r0,r0=aA v y.n:=⟨_,rfl⟩
  have eD:=aT.eq_2 v s n
  rw[←hy,if_pos e1,←hr]at eD
  rw[←hr]at eA
  have nk:¬(r0.kind=2∧r0.state=2):=by
    have:=FJ (v:=v) (x:=⟨1,s.target⟩) (by rw[hy'];exact q1) (by rw[hy'];exact e2)
    rw[hy',←hr]at this;exact this
  have kk:r0.kind=1∨r0.kind=2∨r0.kind=3:=hki _ (by rw[eA];exact List.mem_map.2 ⟨_,List.getElem_mem hk,rfl⟩)
  obtain⟨bR,gR,pre,row,post,fR,iR,mR,lR,oR,nR,sR,bmR,bnR,wr⟩:=o.ou hk
  rw[←ek,i1]at iR
  injection iR with iR
  subst iR
  rw[←eA]at oR
  obtain⟨wS,wQ,wA,fS,fQ,fA,rfl,rfl,oS,oQ,oA⟩:=cX oR
  obtain⟨x5,x6,x7,x8⟩:=oQ.cell
  obtain⟨_,lQ⟩:=cP oQ
  rw[List.length_map]at lQ
  have r0':∀(e:List AV) (L:List (List AV)),(St.mk e L h').cells (.gp bR gR (pre.length+0)) 1=some [.int .i64 r0.kind]:=fun e L=>mR.cells e L 0 1 (by simp)
  have r3':∀(e:List AV) (L:List (List AV)),(St.mk e L h').cells (.gp bR gR (pre.length+3)) 1=some [.int .i64 r0.state]:=fun e L=>mR.cells e L 3 1 (by simp)
  have r6':∀(e:List AV) (L:List (List AV)),(St.mk e L h').cells (.gp bR gR (pre.length+6)) 1=some [wQ]:=fun e L=>mR.cells e L 6 1 (by simp)
  have r8':∀(e:List AV) (L:List (List AV)),(St.mk e L h').cells (.gp bR gR (pre.length+8)) 1=some [.int .i64 r0.peer]:=fun e L=>mR.cells e L 8 1 (by simp)
  have r9':∀(e:List AV) (L:List (List AV)),(St.mk e L h').cells (.gp bR gR (pre.length+9)) 1=some [.int .i64 r0.pos]:=fun e L=>mR.cells e L 9 1 (by simp)
  have ost:aG h' [.int .i64 y.n,.str s.name,wa,.int .i64 s.result,.int .i64 s.tag.vat,.int .i64 s.tag.entity,.int .i64 s.tag.seq] (iy v s).cd fs:=by
    have:=mP (s:=iy v s) oa
    rw[show(iy v s).target=y.n by rw[hy];rfl]at this
    exact this
  by_cases k1:r0.kind=1
  · rw[if_pos k1]at eD
    by_cases t60:v.loop.length<60
    rotate_left
    · rw[if_neg t60]at eD
      simp only[EZ,ag,Nat.reduceAdd,Nat.reduceBEq,jy,fC,eM,fg,eQ,aE,aO,ER,EF,EA,cb,a1,a2,a3,b1,b2,b3,g1,g2,g3,lE,l2,an,ah,cK,r0',decide_eq_true k1,decide_eq_true (show(v.loop.length:Int)≥60 by omega),decide_eq_true (show(60:Int)≤(v.loop.length:Int)by omega)]
      refine al.ref (by simp only[EO,g3,g4]) (FAIL _ eD) ?_
      rintro _ H' ⟨rfl,fin⟩
      simp only[EZ,ag,Nat.reduceAdd,Nat.reduceBEq,jy,fC,eM,fg,eQ,aE,aO,ER,EF]
      first|exact⟨rfl,rfl,fin⟩|exact⟨rfl,fin⟩|trace_state
    · rw[if_pos t60]at eD
      have nd2:(f2++fs).Nodup:=List.nodup_append.2 ⟨o.n2,ns,fun x hx y hy e=>(ds y hy).1 (aN.2 (.inr (.inl (e▸hx))))⟩
      obtain⟨v',H1,f2',ea,o',nd',hf',hl',hm'⟩:=cY (bytes:=80) o.o2 nd2 (by omega) rfl ost (by simp only[List.length_map,aQ];omega)
      obtain⟨j1,j2,j3,j4⟩:=o'.cell
      have hb1:b7 H1 b=some (0,[.int .i64 v.id,wE,w2,wL,w4]):=by rw[bt (hf' b o.b2 blt)];exact hb
      obtain⟨H2,s2,hb2,l2',r2⟩:=qT hb1 (i:=2) (w:=v') (by simp) j3
      have o2:=o.MI (G:=fs) (l':=v.loop++[iy v s]) (f2':=f2') hb2 ((by rw[List.map_append];exact o':b6 H1 v' (.sl 7 ((v.loop++[iy v s]).map aM.cd)) f2').frame fun c hc=>r2 c (fun e=>by
        subst e
        rcases hm' c hc with g|g|g
        · exact o.b2 g
        · exact(ds c g).2 rfl
        · omega)) nd' hm' ds (by omega) (fun c h1 h2 h3 h4=>by rw[r2 c h3,hf' c h1 h4])
      have fin:gg h' b (fun c=>c∈eL fE f2 fL f4∨c∈fs) H2 { v with loop:=v.loop++[iy v s] }:=o2.up (by omega) (fun c hc=>by
        rcases aN.1 hc with g|g|g|g
        · exact .inl (.inl (aN.2 (.inl g)))
        · rcases hm' c g with q|q|q
          · exact .inl (.inl (aN.2 (.inr (.inl q))))
          · exact .inl (.inr q)
          · exact .inr q
        · exact .inl (.inl (aN.2 (.inr (.inr (.inl g)))))
        · exact .inl (.inl (aN.2 (.inr (.inr (.inr g)))))) (fun c h1 h2 h3=>by rw[r2 c h2,hf' c (fun h=>h1 (.inl (aN.2 (.inr (.inl h))))) h3])
      rw[←eD]at fin
      simp only[EZ,ag,Nat.reduceAdd,Nat.reduceBEq,jy,fC,eM,fg,eQ,aE,aO,ER,EF,EA,cb,a1,a2,a3,b1,b2,b3,g1,g2,g3,lE,l2,an,ah,cK,r0',decide_eq_true k1,decide_eq_false (show ¬(v.loop.length:Int)≥60 by omega),decide_eq_false (show ¬(60:Int)≤(v.loop.length:Int)by omega),ea,j1,j2,j3,s2]
      repeat' (first
        | (guard_target =~ Mem _ _;first|exact Mem.loc ⟨_,([]:List (List AV))++[_],_⟩ _ [_]|exact Mem.heap ⟨_,_,_⟩ _ _)
        | (guard_target =~ eK _ _ _;first|exact eu rfl|exact fG (L':=[_]) rfl)
        | exact⟨rfl,rfl,fin⟩|exact⟨rfl,fin⟩|exact fin|refine And.intro ?_ ?_)
  rw[if_neg k1]at eD
  by_cases k3:r0.kind=3
  · rw[if_pos k3]at eD
    have eN:aT (n+1) v s=jZ v s r0.peer r0.pos none:=by
      rw[eD]
      by_cases co:cQ v s r0.peer=true
      · rw[if_pos (show cQ v (iy v s) r0.peer=true from co),jX (s:=iy v s) hq co,jZ,if_pos co];rfl
      · rw[if_neg (show ¬cQ v (iy v s) r0.peer=true from co),jZ,if_neg co,k8 hf]
    simp only[EZ,ag,Nat.reduceAdd,Nat.reduceBEq,jy,fC,eM,fg,eQ,aE,aO,ER,EF,EA,cb,a1,a2,a3,b1,b2,b3,g1,g2,g3,lE,l2,an,ah,cK,r0',r8',r9',decide_eq_false k1,decide_eq_true k3]
    refine al.ref (by simp only[EO,g3,g4]) (HX v s r0.peer r0.pos hvi hs hw hf h' o os ns ds none .nilp (.inl ⟨rfl,rfl⟩)) ?_
    rintro _ H' ⟨rfl,fin⟩
    rw[←eN]at fin
    simp only[EZ,ag,Nat.reduceAdd,Nat.reduceBEq,jy,fC,eM,fg,eQ,aE,aO,ER,EF]
    first|exact⟨rfl,rfl,fin⟩|exact⟨rfl,fin⟩|trace_state
  rw[if_neg k3]at eD
  have k2:r0.kind=2:=by omega
  rw[if_pos k2]at eD
  by_cases s3:r0.state=3
  · rw[if_pos s3]at eD
    have hne:y.n≠s.result:=fun e=>by rw[←e,←hr]at hst;omega
    have eN:aT (n+1) v s=jZ v s r0.peer 0 (some y.n):=by
      rw[eD]
      by_cases co:cQ v s r0.peer=true
      · rw[if_pos (show cQ v (iy v s) r0.peer=true from co),jX (s:=iy v s) hq co,jZ,if_pos co,←hr];rfl
      · rw[if_neg (show ¬cQ v (iy v s) r0.peer=true from co),jZ,if_neg co,k8 hf]
    simp only[EZ,ag,Nat.reduceAdd,Nat.reduceBEq,jy,fC,eM,fg,eQ,aE,aO,ER,EF,EA,cb,a1,a2,a3,b1,b2,b3,g1,g2,g3,lE,l2,an,ah,cK,r0',r3',r8',r9',decide_eq_false k1,decide_eq_false k3,decide_eq_true k2,decide_eq_true s3]
    refine al.ref (by simp only[EO,g3,g4]) (HX v s r0.peer 0 hvi hs hw hf h' o os ns ds (some y.n) (.gp bR gR pre.length) (.inr ⟨y.n,rfl,e2,hne,i1⟩)) ?_
    rintro _ H' ⟨rfl,fin⟩
    rw[←eN]at fin
    simp only[EZ,ag,Nat.reduceAdd,Nat.reduceBEq,jy,fC,eM,fg,eQ,aE,aO,ER,EF]
    first|exact⟨rfl,rfl,fin⟩|exact⟨rfl,fin⟩|trace_state
  rw[if_neg s3]at eD
  rw[if_neg (fun h=>nk ⟨k2,h⟩)]at eD
  by_cases t40:r0.queue.length<40
  rotate_left
  · rw[if_neg t40]at eD
    simp only[EZ,ag,Nat.reduceAdd,Nat.reduceBEq,jy,fC,eM,fg,eQ,aE,aO,ER,EF,EA,cb,a1,a2,a3,b1,b2,b3,g1,g2,g3,lE,l2,an,ah,cK,r0',r3',r6',x5,x6,x7,lQ,decide_eq_false k1,decide_eq_false k3,decide_eq_true k2,decide_eq_false s3,decide_eq_true (show(r0.queue.length:Int)≥40 by omega),decide_eq_true (show(40:Int)≤(r0.queue.length:Int)by omega)]
    refine al.ref (by simp only[EO,g3,g4]) (FAIL _ eD) ?_
    rintro _ H' ⟨rfl,fin⟩
    simp only[EZ,ag,Nat.reduceAdd,Nat.reduceBEq,jy,fC,eM,fg,eQ,aE,aO,ER,EF]
    first|exact⟨rfl,rfl,fin⟩|exact⟨rfl,fin⟩|trace_state
  rw[if_pos t40]at eD
  obtain⟨nS2,nQA2,dS2⟩:=List.nodup_append.1 nR
  obtain⟨nQ2,nA2,dQ2⟩:=List.nodup_append.1 nQA2
  have ltR:∀c,c∈fS++(fQ++fA)→c<h'.length:=fun c hc=>vlt c (aN.2 (.inl (sR c hc)))
  have nofs:∀c∈fs,c∉fS++(fQ++fA):=fun c hc h=>(ds c hc).1 (aN.2 (.inl (sR c h)))
  obtain⟨v',H8,fp',ea,o8,nd8,hf8,hl8,hm8⟩:=cY (bytes:=80) oQ (List.nodup_append.2 ⟨nQ2,ns,fun x hx y hy e=>nofs y hy (by subst e;simp[hx])⟩) (by omega) rfl ost (by simp only[List.length_map,aQ];omega)
  obtain⟨p1,p2,p3,p4⟩:=o8.cell
  have kS:∀c∈fS++fA,H8[c]? = h'[c]?:=fun c hc=>by
    refine hf8 c (fun h=>?_) (ltR c (by simp only[List.mem_append]at hc ⊢;exact hc.elim .inl fun h=>.inr (.inr h)))
    rcases List.mem_append.1 hc with q|q
    · exact dS2 c q c (List.mem_append_left _ h) rfl
    · exact dQ2 c h c q rfl
  have bRQ:bR∉fQ:=fun h=>bnR (by simp[h])
  have bRlt:bR<h'.length:=vlt bR (aN.2 (.inl bmR))
  have m8:=mR.frame (hf8 bR bRQ bRlt)
  obtain⟨H9,s9,m9,l9,r9⟩:=m8.put 6 [v'] (by simp) (by simp only[i5,iY,p3];rfl)
  replace m9:kC H9 bR gR pre [.int .i64 r0.kind,.int .i64 r0.script,wS,.int .i64 r0.state,.int .i64 r0.value.kind,.int .i64 r0.value.n,v',wA,.int .i64 r0.peer,.int .i64 r0.pos,.int .i64 r0.count,.int .i64 r0.sent] post:=m9
  have bRf:bR∉fp':=fun h=>by
    rcases hm8 bR h with g|g|g
    · exact bRQ g
    · exact(ds bR g).1 (aN.2 (.inl bmR))
    · omega
  have own9:aG H9 _ (kz r0 (iy v s)).cd (fS++(fp'++fA)):=hZ (e:=kz r0 (iy v s)) (oS.frame fun c hc=>by rw[r9 c (fun e=>bnR (e▸(by simp[hc]))),kS c (by simp[hc])]) (wQ:=v') (fQ:=fp') (by
    have:=o8.frame (h':=H9) fun c hc=>r9 c (fun e=>bRf (e▸hc))
    simp only[kz,List.map_append];exact this) (oA.frame fun c hc=>by rw[r9 c (fun e=>bnR (e▸(by simp[hc]))),kS c (by simp[hc])])
  obtain⟨fE9,o9,me9⟩:=wr H9 _ (kz r0 (iy v s)) (fS++(fp'++fA)) fs (by omega) ds m9 own9
    (List.nodup_append.2 ⟨nS2,List.nodup_append.2 ⟨nd8,nA2,fun x hx y hy e=>by
      subst e
      rcases hm8 x hx with g|g|g
      · exact dQ2 x g x hy rfl
      · exact nofs x g (by simp[hy])
      · have:=ltR x (by simp[hy]);omega⟩,fun x hx y hy e=>by
      subst e
      rcases List.mem_append.1 hy with q|q
      · rcases hm8 x q with g|g|g
        · exact dS2 x hx x (by simp[g]) rfl
        · exact nofs x g (by simp[hx])
        · have:=ltR x (by simp[hx]);omega
      · exact dS2 x hx x (by simp[q]) rfl⟩)
    (fun c hc=>by
      simp only[List.mem_append]at hc ⊢
      rcases hc with g|g|g
      · exact .inl (.inl g)
      · rcases hm8 c g with q|q|q
        · exact .inl (.inr (.inl q))
        · exact .inr (.inl q)
        · exact .inr (.inr q)
      · exact .inl (.inr (.inr g))) (fun c hc hn _ hb=>by rw[r9 c hb,hf8 c (fun h=>hn (by simp[h])) hc])
  have ev:({ v with entities:=v.entities.set k (kz r0 (iy v s)) }:ar)=aT (n+1) v s:=by rw[eD,fP,ek2]
  rw[ev]at o9
  have fin:gg h' b (fun c=>c∈eL fE f2 fL f4∨c∈fs) H9 (aT (n+1) v s):=o9.up (by omega) (fun c hc=>by
    rcases aN.1 hc with g|g|g|g
    · rcases me9 c g with q|q
      · exact .inl (.inl (aN.2 (.inl q.1)))
      · simp only[List.mem_append]at q
        rcases q with q|q|q
        · exact .inl (.inl (aN.2 (.inl (sR c (by simp[q])))))
        · rcases hm8 c q with q|q|q
          · exact .inl (.inl (aN.2 (.inl (sR c (by simp[q])))))
          · exact .inl (.inr q)
          · exact .inr q
        · exact .inl (.inl (aN.2 (.inl (sR c (by simp[q])))))
    · exact .inl (.inl (aN.2 (.inr (.inl g))))
    · exact .inl (.inl (aN.2 (.inr (.inr (.inl g)))))
    · exact .inl (.inl (aN.2 (.inr (.inr (.inr g)))))) (fun c h1 h2 h3=>by
    rw[r9 c (fun e=>h1 (.inl (aN.2 (.inl (e▸bmR))))),hf8 c (fun h=>h1 (.inl (aN.2 (.inl (sR c (by simp[h])))))) h3])
  simp only[EZ,ag,Nat.reduceAdd,Nat.reduceBEq,jy,fC,eM,fg,eQ,aE,aO,ER,EF,EA,cb,a1,a2,a3,b1,b2,b3,g1,g2,g3,lE,l2,an,ah,cK,r0',r3',r6',x5,x6,x7,lQ,decide_eq_false k1,decide_eq_false k3,decide_eq_true k2,decide_eq_false s3,decide_eq_false (show ¬(r0.queue.length:Int)≥40 by omega),decide_eq_false (show ¬(40:Int)≤(r0.queue.length:Int)by omega),ea,p1,p2,p3,s9]
  repeat' (first
    | (guard_target =~ Mem _ _;first|exact Mem.loc ⟨_,([]:List (List AV))++[_],_⟩ _ [_]|exact Mem.heap ⟨_,_,_⟩ _ _)
    | (guard_target =~ eK _ _ _;first|exact eu rfl|exact fG (L':=[_]) rfl)
    | exact⟨rfl,rfl,fin⟩|exact⟨rfl,fin⟩|exact fin|refine And.intro ?_ ?_)
end Go.Proofs.YtccjhmhkfnnmaaaGreat
namespace Go.Proofs.YtccjhmhkfnnmaaaGreat
open Go.AM
variable {Γ:bY}
set_option maxHeartbeats 8000000 in
set_option maxRecDepth 100000 in
theorem PS(v:ar)(t:Int)(name:ByteArray)(args:List ae)(hvi:VI v)(hki:KI v)(hw:wV v≤400000)(hn:name.size≤1048576)(ha:args.length≤1048576)(β:Bool)(H:AH){b:Nat}{f:List Nat}(a:kt H b v f):
    T Tryz.prog Γ Fn.Sw [.gp b 0 0,.int .i64 t,.str name,.vs β 2 false (args.map (ae.c β))] H fun r H'=>r=.int .i64 (c5 v t name args).2∧gg H b (fun c=>c∈f) H' (c5 v t name args).1:=by
  obtain⟨wE,w2,wL,w4,fE,f2,fL,f4,rfl,o⟩:=a
  have hE:v.entities.length≤1048576:=by have:=hvi.ents;omega
  have L0:=di β 2 false args (ae.c β)
  have hb:=o.hb
  have blt:=o.blt
  have vlt:=o.lt
  have cb:∀(e:List AV) (L:List (List AV)) (off n:Nat),(St.mk e L H).cells (.gp b 0 off) n=sub [.int .i64 v.id,wE,w2,wL,w4] off n:=fun e L off n=>bp hb
  obtain⟨a1,a2,a3,a4⟩:=o.oE.cell
  obtain⟨_,lE⟩:=cP o.oE
  rw[List.length_map]at lE
  have upv:gg H b (fun c=>c∈eL fE f2 fL f4) H v:=gg.refl o.at fun c hc=>hc
  have bad:hH v t name args=false→c5 v t name args=(v,-1):=fun h=>by rw[c5,if_neg (by rw[lV,h];simp)]
  refine QC (au aC aD [] _ _ _ ?_)
  unfold GM
  simp only[EZ,ag,Nat.reduceAdd,Nat.reduceBEq,iC,dR,aE,aO,ER,EF,cb,a1,a2,a3,lE,L0]
  refine al.ref (by simp only[EO]) (vt hE t o) ?_
  rintro r h' ⟨⟨e1,i1⟩|⟨e1,rfl⟩,e⟩
  rotate_left
  · replace e:h'=H:=e
    subst e
    rw[bad (by rw[hH,e1];rfl)]
    simp only[EZ,ag,Nat.reduceAdd,Nat.reduceBEq,iC,dR,aE,aO,ER,EF,cb,a1,a2,a3,lE,L0]
    first|exact⟨rfl,rfl,upv⟩|exact⟨rfl,upv⟩|trace_state
  replace e:h'=H:=e
  subst e
  obtain⟨k,hk,ek,ek2,eA⟩:=cm e1
  obtain⟨bQ,gQ,nQ,rowQ,fQ0,iQ,_⟩:=o.gG hk
  rw[←ek,i1]at iQ;injection iQ with iQ;subst iQ
  cases e2:j7 name
  · rw[bad (by rw[hH,e1,e2];rfl)]
    simp only[EZ,ag,Nat.reduceAdd,Nat.reduceBEq,iC,dR,aE,aO,ER,EF,cb,a1,a2,a3,lE,L0]
    refine al.val (by simp only[EO]) (Bw name hn _) ?_
    rw[e2]
    simp only[EZ,ag,Nat.reduceAdd,Nat.reduceBEq,iC,dR,aE,aO,ER,EF,cb,a1,a2,a3,lE,L0]
    first|exact⟨rfl,rfl,upv⟩|exact⟨rfl,upv⟩|trace_state
  by_cases e3:args.length≤2
  rotate_left
  · rw[bad (by rw[hH,e1,e2,decide_eq_false e3];rfl)]
    simp only[EZ,ag,Nat.reduceAdd,Nat.reduceBEq,iC,dR,aE,aO,ER,EF,cb,a1,a2,a3,lE,L0]
    refine al.val (by simp only[EO]) (Bw name hn _) ?_
    rw[e2]
    simp only[EZ,ag,Nat.reduceAdd,Nat.reduceBEq,iC,dR,aE,aO,ER,EF,cb,a1,a2,a3,lE,L0,decide_eq_true (show(args.length:Int)>2 by omega),decide_eq_true (show(2:Int)<(args.length:Int)by omega)]
    first|exact⟨rfl,rfl,upv⟩|exact⟨rfl,upv⟩|trace_state
  cases e4:iG args v.entities.length
  · rw[bad (by rw[hH,e1,e2,decide_eq_true e3,e4];rfl)]
    simp only[EZ,ag,Nat.reduceAdd,Nat.reduceBEq,iC,dR,aE,aO,ER,EF,cb,a1,a2,a3,lE,L0]
    refine al.val (by simp only[EO]) (Bw name hn _) ?_
    rw[e2]
    simp only[EZ,ag,Nat.reduceAdd,Nat.reduceBEq,iC,dR,aE,aO,ER,EF,cb,a1,a2,a3,lE,L0,decide_eq_false (show ¬(args.length:Int)>2 by omega),decide_eq_false (show ¬(2:Int)<(args.length:Int)by omega)]
    refine al.val (by simp only[EO]) (JG β args ha _ hE _) ?_
    rw[e4]
    simp only[EZ,ag,Nat.reduceAdd,Nat.reduceBEq,iC,dR,aE,aO,ER,EF,cb,a1,a2,a3,lE,L0]
    first|exact⟨rfl,rfl,upv⟩|exact⟨rfl,upv⟩|trace_state
  have ok:hH v t name args=true:=by rw[hH,e1,e2,decide_eq_true e3,e4];rfl
  simp only[EZ,ag,Nat.reduceAdd,Nat.reduceBEq,iC,dR,aE,aO,ER,EF,cb,a1,a2,a3,lE,L0]
  refine al.val (by simp only[EO]) (Bw name hn _) ?_
  rw[e2]
  simp only[EZ,ag,Nat.reduceAdd,Nat.reduceBEq,iC,dR,aE,aO,ER,EF,cb,a1,a2,a3,lE,L0,decide_eq_false (show ¬(args.length:Int)>2 by omega),decide_eq_false (show ¬(2:Int)<(args.length:Int)by omega)]
  refine al.val (by simp only[EO]) (JG β args ha _ hE _) ?_
  rw[e4]
  simp only[EZ,ag,Nat.reduceAdd,Nat.reduceBEq,iC,dR,aE,aO,ER,EF,cb,a1,a2,a3,lE,L0]
  refine al.val (by simp only[EO]) (MP _) ?_
  simp only[EZ,ag,Nat.reduceAdd,Nat.reduceBEq,iC,dR,aE,aO,ER,EF,cb,a1,a2,a3,lE,L0]
  refine al.ref (by simp only[EO,lG]) (MT v cN h' o.at (tT h') (by simp) (fun c hc=>by cases hc)) ?_
  rintro _ H1 ⟨rfl,u1⟩
  by_cases h2:200≤v.entities.length
  · have en:jL v = -1:=by rw[jL,if_pos h2]
    have ef:gm v cN=v:=by rw[gm,if_pos h2]
    have es:c5 v t name args=(v,-1):=by rw[c5,if_neg (by rw[lV,decide_eq_false (by omega)];simp)]
    rw[en,es]
    rw[ef]at u1
    have fin:gg h' b (fun c=>c∈eL fE f2 fL f4) H1 v:=gg.mono u1 fun c hc=>hc.elim id fun h=>by cases h
    simp only[EZ,ag,Nat.reduceAdd,Nat.reduceBEq,iC,dR,aE,aO,ER,EF,show decide ((-1:Int)<0)=true from rfl]
    first|exact⟨rfl,rfl,fin⟩|exact⟨rfl,fin⟩|exact fin
  have en:jL v=(v.entities.length:Int):=by rw[jL,if_neg h2]
  have ef:gm v cN=gx v:=by rw[gm,if_neg h2];rfl
  have es:c5 v t name args=(aT (je (bZ v t)+1) (bZ v t) (hU v t name args),(v.entities.length:Int)):=by rw[c5,if_pos (by rw[lV,ok,decide_eq_true (by omega)];rfl)]
  rw[es]
  rw[ef]at u1
  obtain⟨f1,⟨wE1,w21,wL1,w41,fE1,f21,fL1,f41,rfl,o1⟩,l1,m1,r1⟩:=u1
  have hlen1:(gx v).entities.length=v.entities.length+1:=by simp[gx]
  have hk1:k<(gx v).entities.length:=by omega
  obtain⟨e,he⟩:∃e,e=aA v t:=⟨_,rfl⟩
  have eA1:e=(gx v).entities[k]:=by rw[he,eA];simp only[gx];rw[List.getElem_append_left hk]
  simp only[EZ,ag,Nat.reduceAdd,Nat.reduceBEq,iC,dR,aE,aO,ER,EF,en,decide_eq_false (show ¬(v.entities.length:Int)<0 by omega)]
  refine al.ref (by simp only[EO]) (vt (v:=gx v) (by omega) t o1) ?_
  rintro r H1' ⟨⟨e1',i2⟩|⟨e1',_⟩,eh⟩
  rotate_left
  · rw[hlen1,pv e1]at e1';cases e1'
  replace eh:H1'=H1:=eh
  subst eh
  obtain⟨bS,gS,pre,row,post,fT,iS,mS,lS,oS2,nfT,sT,bmS,bnS,wr⟩:=o1.ou hk1
  rw[←ek,i2]at iS
  injection iS with iS
  subst iS
  rw[←eA1]at oS2
  obtain⟨wS2,wQ2,wA2,fS2,fQ2,fA2,rfl,rfl,oS3,oQQ,oAA⟩:=cX oS2
  have c11:∀(e':List AV) (L:List (List AV)),(St.mk e' L H1').cells (.gp bS gS (pre.length+11)) 1=some [.int .i64 e.sent]:=fun e' L=>mS.cells e' L 11 1 (by simp)
  obtain⟨H2,s2,m2,l2,r2⟩:=mS.put 11 [.int .i64 (IntKind.i64.wrap (e.sent+1))] (by simp) rfl
  replace m2:kC H2 bS gS pre [.int .i64 e.kind,.int .i64 e.script,wS2,.int .i64 e.state,.int .i64 e.value.kind,.int .i64 e.value.n,wQ2,wA2,.int .i64 e.peer,.int .i64 e.pos,.int .i64 e.count,.int .i64 (IntKind.i64.wrap (e.sent+1))] post:=m2
  have own2:aG H2 _ (jA e).cd (fS2++(fQ2++fA2)):=hZ (e:=jA e) (oS3.frame fun c hc=>r2 c (fun e=>bnS (e▸(by simp[hc])))) (oQQ.frame fun c hc=>r2 c (fun e=>bnS (e▸(by simp[hc])))) (oAA.frame fun c hc=>r2 c (fun e=>bnS (e▸(by simp[hc]))))
  obtain⟨fE2,o2,me2⟩:=wr H2 _ (jA e) (fS2++(fQ2++fA2)) [] (by omega) (fun c hc=>by cases hc) m2 own2 nfT (fun c hc=>.inl hc) (fun c _ _ _ h=>r2 c h)
  have ev:({ gx v with entities:=(gx v).entities.set k (jA e) }:ar)=bZ v t:=by rw[bZ,fP,ek2,he]
  rw[ev]at o2
  have hb2:=o2.hb
  have blt2:=o2.blt
  have vlt2:=o2.lt
  have cb2:∀(e:List AV) (L:List (List AV)) (off n:Nat),(St.mk e L H2).cells (.gp b 0 off) n=sub [.int .i64 v.id,wE1,w21,wL1,w41] off n:=fun e L off n=>bp hb2
  have c11':∀(e':List AV) (L:List (List AV)),(St.mk e' L H2).cells (.gp bS gS (pre.length+11)) 1=some [.int .i64 (IntKind.i64.wrap (e.sent+1))]:=fun e' L=>m2.cells e' L 11 1 (by simp)
  simp only[EZ,ag,Nat.reduceAdd,Nat.reduceBEq,iC,dR,aE,aO,ER,EF,EA,c11,c11',s2,cb2]
  refine al.ref (by simp only[EO]) (mM β args ha H2) ?_
  rintro w' H3 fr
  replace fr:aV H2 _ _ _:=fr
  obtain⟨fw,ow,nw,bw,eg⟩:=fr.c1
  obtain⟨p1,p2,p3,p4⟩:=ow.cell
  have keep3:=eg.fr
  have l3:=eg.len
  have cb3:∀(e:List AV) (L:List (List AV)) (off n:Nat),(St.mk e L H3).cells (.gp b 0 off) n=sub [.int .i64 v.id,wE1,w21,wL1,w41] off n:=fun e L off n=>bp (by rw[bt (keep3 b blt2)];exact hb2)
  simp only[EZ,ag,Nat.reduceAdd,Nat.reduceBEq,iC,dR,aE,aO,ER,EF,EA,c11',cb2,cb3,p1,p2,p3,gZ,qH,qO,qh]
  refine⟨sq fun r hr=>?_,?_⟩
  · rcases(by simpa using hr:r=58∨r=63)with rfl|rfl
    · exact .inr ⟨b,0,_,rfl,keep3 b blt2⟩
    · exact .inr ⟨bS,gS,_,rfl,keep3 bS m2.lt⟩
  obtain⟨sk1,sk2⟩:=yM e1
  have entP:aA (bZ v t) (hU v t name args).result=cN:=by
    have:(bZ v t).entities=(gx v).entities.set k (jA e):=by rw[←ev]
    show(bZ v t).entities.getD (v.entities.length:Int).toNat default=cN
    rw[this,Int.toNat_natCast,List.getD_eq_getElem?_getD,List.getElem?_set_ne (by omega)]
    simp[gx]
  have kiV:KI (bZ v t):=by
    have e2:cU (bZ v t)=cU v++[2]:=by
      rw[bZ,gP _ _ _ (by rw[kD e1];rfl)];simp[cU,gx,cN]
    intro k hk
    rw[e2]at hk
    rcases List.mem_append.1 hk with g|g
    · exact hki k g
    · rw[List.mem_singleton.1 g];exact .inr (.inl rfl)
  have own:aG H3 [.int .i64 t,.str name,w',.int .i64 (v.entities.length:Int),.int .i64 v.id,.int .i64 t,.int .i64 (IntKind.i64.wrap (e.sent+1))] (hU v t name args).cd fw:=by
    have:=mP (s:=hU v t name args) (wa:=w') (f:=fw) (H:=H3) ow
    rw[he];exact this
  have a3v:kt H3 b (bZ v t) (eL fE2 f21 fL1 f41):=o2.at.frame fun c hc=>keep3 c (by rcases hc with g|g;exact vlt2 c g;rw[g];exact blt2)
  refine al.ref (by simp only[EO,p3,p4]) (OH (je (bZ v t)) (bZ v t) (hU v t name args) (sk2 hvi (by omega)) ⟨by have:=pd e2;show name.size≤100;omega,by show args.length≤100;omega⟩ (by show wV (bZ v t)+2+args.length≤500000;omega) (by rw[entP];rfl) (by rw[entP];rfl) (by rw[entP];rfl) kiV H3 a3v own nw (fun c hc=>⟨fun h=>by have:=vlt2 c h;have:=bw c hc;omega,fun h=>by have:=bw c hc;omega⟩)) ?_
  rintro _ H4 ⟨rfl,f4',o4,l4,m4,r4⟩
  replace o4:kt H4 b (aT (je (bZ v t)+1) (bZ v t) (hU v t name args)) f4':=o4
  replace l4:H3.length≤H4.length:=l4
  replace m4:∀c∈f4',(c∈eL fE2 f21 fL1 f41∨c∈fw)∨H3.length≤c:=m4
  replace r4:∀c,¬(c∈eL fE2 f21 fL1 f41∨c∈fw)→c≠b→c<H3.length→H4[c]? = H3[c]?:=r4
  have m1':∀c∈eL fE1 f21 fL1 f41,c∈eL fE f2 fL f4∨h'.length≤c:=fun c hc=>by
    rcases m1 c hc with(g|g)|g
    · exact .inl g
    · cases g
    · exact .inr g
  have sub2:∀c∈eL fE2 f21 fL1 f41,c∈eL fE1 f21 fL1 f41:=fun c hc=>by
    rcases aN.1 hc with g|g|g|g
    · rcases me2 c g with q|q
      · exact aN.2 (.inl q.1)
      · exact aN.2 (.inl (sT c q))
    · exact aN.2 (.inr (.inl g))
    · exact aN.2 (.inr (.inr (.inl g)))
    · exact aN.2 (.inr (.inr (.inr g)))
  have fin:gg h' b (fun c=>c∈eL fE f2 fL f4) H4 (aT (je (bZ v t)+1) (bZ v t) (hU v t name args)):=⟨f4',o4,by omega,fun c hc=>by
    rcases m4 c hc with(g|g)|g
    · exact m1' c (sub2 c g)
    · exact .inr (by have:=bw c g;omega)
    · exact .inr (by omega),fun c h1 h2 h3=>by
    rw[r4 c (fun h=>by
      rcases h with g|g
      · rcases m1' c (sub2 c g)with q|q
        · exact h1 q
        · omega
      · have:=bw c g;omega) h2 (by omega),keep3 c (by omega),r2 c (fun h=>by
      rcases m1' c (aN.2 (.inl (h▸bmS)))with q|q
      · exact h1 q
      · omega),r1 c (fun h=>by
      rcases h with g|g
      · exact h1 g
      · cases g) h2 h3]⟩
  simp only[EZ,ag,Nat.reduceAdd,Nat.reduceBEq,iC,dR,aE,aO,ER,EF]
  first|exact⟨rfl,rfl,fin⟩|exact⟨rfl,fin⟩|exact fin
set_option maxHeartbeats 4000000 in
set_option maxRecDepth 100000 in
theorem Mc(β β':Bool)(v:ar)(t:Int)(name:ByteArray)(args:List ae)(hvi:VI v)(hki:KI v)(hw:wV v≤400000)(hn:name.size≤1048576)(ha:args.length≤1048576)(h:AH):
    T Tryz.prog Γ Fn.RF [.agg (v.c β),.int .i64 t,.str name,.vs β' 2 false (args.map (ae.c β'))] h (aV h [.a (c5 v t name args).1.cd,.c (.i .i64 (c5 v t name args).2)]):=by
  refine T.pT rfl ?_
  refine OK (au aC aD [10] _ _ _ ?_)
  unfold I3
  simp only[EZ,ag,Nat.reduceAdd,Nat.reduceBEq,BY,aE,aO,ER,EF,ar.c]
  refine al.ref (by simp only[EO]) (Qp β v (hvi.Lz.mono (by omega)) _) ?_
  rintro w H1 fr
  replace fr:aV h _ _ _:=fr
  obtain⟨ac,f,rfl,o,nd,bb,eg⟩:=fr.a1
  obtain⟨wE,w2,wL,w4,fE,f2,fL,f4,rfl,rfl,oE,o2,oL,o4⟩:=kl o
  obtain⟨a1,a2,a3,a4⟩:=oE.cell
  obtain⟨b1,b2,b3,b4⟩:=o2.cell
  obtain⟨c1,c2,c3,c4⟩:=oL.cell
  obtain⟨d1,d2,d3,d4⟩:=o4.cell
  obtain⟨H2,s2,hb2,l2,r2⟩:=xE (H:=H1) (z:=[.int .i64 0,.nils,.nils,.nils,.nils]) (cells:=[.int .i64 v.id,wE,w2,wL,w4]) rfl (by simp only[i5,iY,a3,b3,c3,d3];rfl)
  have lt1:∀c∈fE++(f2++(fL++f4)),c<H1.length:=fun c hc=>o.lt c hc
  have vat2:kt H2 H1.length v (fE++(f2++(fL++f4))):=kt.of hb2 (o.frame fun c hc=>r2 c (lt1 c hc)) nd (fun hc=>Nat.lt_irrefl _ (lt1 _ hc))
  simp only[EZ,ag,Nat.reduceAdd,Nat.reduceBEq,BY,aE,aO,ER,EF,EA,xN _ _ (show List.all [AV.int .i64 0,.nils,.nils,.nils,.nils] bj=true from rfl),i6,a1,a2,a3,b1,b2,b3,c1,c2,c3,d1,d2,d3,s2,ae.c]
  refine al.ref (by simp only[EO]) (PS v t name args hvi hki hw hn ha β' H2 vat2) ?_
  rintro _ H3 ⟨rfl,f3,a3v,l3,m3,r3⟩
  replace l3:H2.length≤H3.length:=l3
  replace m3:∀c∈f3,c∈fE++(f2++(fL++f4))∨H2.length≤c:=m3
  replace r3:∀c,¬c∈fE++(f2++(fL++f4))→c≠H1.length→c<H2.length→H3[c]? = H2[c]?:=r3
  obtain⟨wE',w2',wL',w4',fE',f2',fL',f4',rfl,o3⟩:=a3v
  obtain⟨aa1,aa2,aa3,aa4⟩:=o3.oE.cell
  obtain⟨bb1,bb2,bb3,bb4⟩:=o3.o2.cell
  obtain⟨cc1,cc2,cc3,cc4⟩:=o3.oL.cell
  obtain⟨dd1,dd2,dd3,dd4⟩:=o3.o4.cell
  have cb3:∀(e:List AV) (L:List (List AV)) (off n:Nat),(St.mk e L H3).cells (.gp H1.length 0 off) n=sub _ off n:=fun e L off n=>bp o3.hb
  have nd3:=o3.nodup
  have hlen:=eg.len
  have ex3:cn h H3:=⟨by omega,fun c hc=>by
    rw[r3 c (fun g=>by have:=bb c g;omega) (by omega) (by omega),r2 c (by omega),eg.fr c hc]⟩
  have bb3':∀c∈eL fE' f2' fL' f4',h.length≤c:=fun c hc=>by
    rcases m3 c hc with g|g
    · exact bb c g
    · omega
  have own3:=o3.own
  obtain⟨N,hN⟩:=ex3.out
  simp only[EZ,ag,Nat.reduceAdd,Nat.reduceBEq,BY,aE,aO,ER,EF,EA,cb3,aa1,aa2,aa3,bb1,bb2,bb3,cc1,cc2,cc3,dd1,dd2,dd3]
  exact⟨by first|simp only[List.all_cons,List.all_nil,EO,aa3,aa4,bb3,bb4,cc3,cc4,dd3,dd4]|(simp only[dJ,EO,aa3,aa4,bb3,bb4,cc3,cc4,dd3,dd4])|(show dY _=true;simp only[EO,aa3,aa4,bb3,bb4,cc3,cc4,dd3,dd4]),_,N,_,rfl,hN,own3,nd3,bb3'⟩
end Go.Proofs.YtccjhmhkfnnmaaaGreat
