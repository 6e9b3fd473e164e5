import Derived.Test.YtccjhmhkfnnmaaaGreatR6G13
import Derived.Test.YtccjhmhkfnnmaaaGreatAmG9
import Derived.Test.YtccjhmhkfnnmaaaGreatR6G14
import Derived.Test.YtccjhmhkfnnmaaaGreatAmG10
set_option linter.unusedVariables false
set_option linter.unusedSimpArgs false
namespace Go.Proofs.YtccjhmhkfnnmaaaGreat
open Go.AM
variable {Γ:bY}
set_option maxHeartbeats 4000000 in
set_option maxRecDepth 100000 in
theorem CT(β:Bool)(v:ar)(hv:v.ok 1048576)(h:AH):T Tryz.prog Γ Fn.Ma [.agg (v.c β)] h (aV h [.a v.cd]):=by
  have L0:=di β 12 false v.entities (aq.c β)
  have L1:=di β 7 false v.links (aB.c β)
  have L2:=di β 13 false v.out (aJ.c β)
  obtain⟨hv1,hv2,hv3,hv4,hv5,hv6,hv7,hv8⟩:=hv
  refine T.iX ?_
  refine NW (au aC aD [] _ _ _ ?_)
  unfold IE
  simp only[EZ,ag,Nat.reduceAdd,Nat.reduceBEq,jz,eV,eY,eU,fk,aE,ER,ar.c]
  refine⟨?_,?_⟩
  refine al.ref (by simp only[EO]) (Dj β v.loop hv3 hv4 _) ?_
  rintro w1 H1 fr
  replace fr:aV h _ _ _:=fr
  obtain⟨f1,o1,n1,b1,e1⟩:=fr.c1
  obtain⟨a1,a2,a3,a4⟩:=o1.cell
  simp only[EZ,ag,Nat.reduceAdd,Nat.reduceBEq,jz,eV,eY,eU,fk,aE,ER,ar.c,a1,a2,a3,L0]
  refine⟨(by first|exact e1.mem _ _ _|exact dg (e1.mem _ _ _)),(by first|exact Mem.loc ⟨_,([]:List (List AV))++[_,_],H1⟩ _ [_]|exact dg (Mem.loc ⟨_,([]:List (List AV))++[_,_],H1⟩ _ [_])),?_⟩
  rotate_left
  refine⟨(by first|exact Mem.loc ⟨_,([]:List (List AV))++[_,_],h⟩ _ [_]|exact dg (Mem.loc ⟨_,([]:List (List AV))++[_,_],h⟩ _ [_])),?_⟩
  refine al.ref (by simp only[EO]) (Dj β v.loop hv3 hv4 _) ?_
  rintro w1 H1 fr
  replace fr:aV h _ _ _:=fr
  obtain⟨f1,o1,n1,b1,e1⟩:=fr.c1
  obtain⟨a1,a2,a3,a4⟩:=o1.cell
  simp only[EZ,ag,Nat.reduceAdd,Nat.reduceBEq,jz,eV,eY,eU,fk,aE,ER,ar.c,a1,a2,a3,L0]
  refine⟨(by first|exact e1.mem _ _ _|exact dg (e1.mem _ _ _)),?_⟩
  rotate_left
  all_goals (
    refine et aC aD [] (fun y:Nat×AV×AH×List Nat×List (List AV)=>y.1≤v.entities.length∧b6 y.2.2.1 y.2.1 (.sl 12 ((v.entities.take y.1).map aq.cd)) y.2.2.2.1∧y.2.2.2.1.Nodup∧(∀c∈y.2.2.2.1,H1.length≤c)∧cn H1 y.2.2.1∧y.2.2.2.2[([]:List (List AV)).length]? = some (v.c β)∧(∃zzE,y.2.2.2.2[([]:List (List AV)).length+1]? = some zzE∧zzE.length=5)∧y.2.2.2.2[([]:List (List AV)).length+2]? = some [AV.int .i64 v.id,y.2.1,w1,.nils,.nils]) (fun y=>v.entities.length-y.1)
      (fun y=>yk (.lp ([]:List (List AV)).length 0) (.lp (([]:List (List AV)).length+1) 0) (.lp (([]:List (List AV)).length+2) 0) (.int .i64 y.1) y.2.2.2.2 y.2.2.1) (0,.nils,H1,[],_) ⟨by simp,.nil _,by simp,by simp,cn.refl _,rfl,⟨_,rfl,rfl⟩,rfl⟩ ⟨by simp[yk,fY,fO],rfl,rfl⟩ ?_
    rintro⟨k,wE,HE,fpE,ME⟩ ⟨hk,hoE,ndE,hfpE,hxE,hM0E,⟨zzE,hM1E,hzzE⟩,hM2E⟩
    simp only at hk hoE ndE hfpE hxE hM0E hM1E hM2E
    obtain⟨k1E,k2E,k3E,k4E⟩:=hoE.cell
    have r0E:∀(e:List AV) (h:AH) (off n:Nat),(St.mk e ME h).cells (.lp ([]:List (List AV)).length off) n=sub (v.c β) off n:=fun e h off n=>ck hM0E
    have r2E:∀(e:List AV) (h:AH) (off n:Nat),(St.mk e ME h).cells (.lp (([]:List (List AV)).length+2) off) n=sub [AV.int .i64 v.id,wE,w1,.nils,.nils] off n:=fun e h off n=>ck hM2E
    have s2E:∀(e:List AV) (h:AH) (a:AV),bU a=true→(St.mk e ME h).store (.lp (([]:List (List AV)).length+2) 1) [a]=some ⟨e,ME.set (([]:List (List AV)).length+2) (cD [AV.int .i64 v.id,wE,w1,.nils,.nils] 1 [a]),h⟩:=fun e h a ha=>kU hM2E (by simp) ha
    simp only[EZ,ag,Nat.reduceAdd,Nat.reduceBEq,jz,eV,eY,eU,fk,yk,r0E,ar.c,L0]
    refine bP (fun hlt=>?_) (fun hge=>?_)
    · have hlt:k<v.entities.length:=by simpa using hlt
      have i0:=dU (β:=β) (sz:=12) (ex:=false) (ce:=aq.c β) hlt
      have he:=hv2 _ (List.getElem_mem hlt)
      generalize hxe:v.entities[k]=x at *
      simp only[EZ,ag,Nat.reduceAdd,Nat.reduceBEq,jz,eV,eY,eU,fk,i0,aq.c,aE,r0E,ar.c,r2E,k1E,k2E,k3E]
      refine al.ref (by simp only[EO]) (GA β x he _) ?_
      rintro _ Hc fr
      replace fr:aV HE _ _ _:=fr
      obtain⟨aw,fw,rfl,ow,nw,bw,ew⟩:=fr.a1
      have hdis:(fpE++fw).Nodup:=dO ndE nw (fun c hc=>hoE.lt c hc) bw
      replace hoE:=hoE.ext ew
      have hx1:=hxE.trans ew
      have oo:=ow
      simp only[aq.cd,fW,fN,gB,iH,iv]at oo
      obtain⟨_,_,_,_,rfl,_,⟨rfl,rfl⟩,⟨_,_,_,_,rfl,_,⟨rfl,rfl⟩,⟨az2,_,_,_,rfl,_,uz2,⟨_,_,_,_,rfl,_,⟨rfl,rfl⟩,⟨_,_,_,_,rfl,_,⟨rfl,rfl⟩,⟨_,_,_,_,rfl,_,⟨rfl,rfl⟩,⟨az6,_,_,_,rfl,_,uz6,⟨az7,_,_,_,rfl,_,uz7,⟨_,_,_,_,rfl,_,⟨rfl,rfl⟩,⟨_,_,_,_,rfl,_,⟨rfl,rfl⟩,⟨_,_,_,_,rfl,_,⟨rfl,rfl⟩,⟨_,_,_,_,rfl,_,⟨rfl,rfl⟩,⟨rfl,_⟩⟩⟩⟩⟩⟩⟩⟩⟩⟩⟩⟩⟩:=oo
      obtain⟨cz2a,cz2b,cz2c,cz2d⟩:=uz2.cell
      obtain⟨cz6a,cz6b,cz6c,cz6d⟩:=uz6.cell
      obtain⟨cz7a,cz7b,cz7c,cz7d⟩:=uz7.cell
      obtain⟨v',H',fp',ea,o',nd',hf',hl',hm'⟩:=cY (bytes:=144) hoE hdis (by omega) rfl ow (by simp only[List.length_map,List.length_take,aQ];omega)
      obtain⟨j1,j2,j3,j4⟩:=o'.cell
      simp only[EZ,ag,Nat.reduceAdd,Nat.reduceBEq,jz,eV,eY,eU,fk,EA,aE,ER,cz2a,cz2b,cz2c,cz6a,cz6b,cz6c,cz7a,cz7b,cz7c,r2E,k1E,k2E,k3E,ea,j1,j2,j3,s2E _ _ _ j2]
      have hl9:=hxE.len
      have hl8:=hx1.len
      have hb':∀c∈fp',H1.length≤c:=fun c hc=>by
        rcases hm' c hc with g|g|g
        · exact hfpE c g
        · have:=bw c g;omega
        · omega
      refine⟨(by first|exact ew.mem _ _ _|exact dg (ew.mem _ _ _)),?_⟩
      exact⟨(k+1,v',H',fp',_),⟨hlt,by simp only;rw[List.take_succ_eq_append_getElem hlt,List.map_append,hxe];exact o',nd',hb',hx1.yZ hl' hf' hfpE,ij hM0E (by simp),⟨zzE,ij hM1E (by simp),hzzE⟩,g8 hM2E⟩,by simp only;omega,⟨by rw[wN (by omega)];simp[yk,fY,fO],rfl,rfl⟩⟩
    have hge:k=v.entities.length:=by simp at hge;omega
    subst hge
    rw[List.take_length]at hoE
    simp only[EZ,ag,Nat.reduceAdd,Nat.reduceBEq,jz,eV,eY,eU,fk,ER,aE]
    refine et aC aD [] (fun y:Nat×AV×AH×List Nat×List (List AV)=>y.1≤v.links.length∧b6 y.2.2.1 y.2.1 (.sl 7 ((v.links.take y.1).map aB.cd)) y.2.2.2.1∧y.2.2.2.1.Nodup∧(∀c∈y.2.2.2.1,HE.length≤c)∧cn HE y.2.2.1∧y.2.2.2.2[([]:List (List AV)).length]? = some (v.c β)∧(∃zzL,y.2.2.2.2[([]:List (List AV)).length+1]? = some zzL∧zzL.length=5)∧y.2.2.2.2[([]:List (List AV)).length+2]? = some [AV.int .i64 v.id,wE,w1,y.2.1,.nils]) (fun y=>v.links.length-y.1)
      (fun y=>xF (.lp ([]:List (List AV)).length 0) (.lp (([]:List (List AV)).length+1) 0) (.lp (([]:List (List AV)).length+2) 0) (.int .i64 y.1) y.2.2.2.2 y.2.2.1) (0,.nils,HE,[],_) ⟨by simp,.nil _,by simp,by simp,cn.refl _,hM0E,⟨zzE,hM1E,hzzE⟩,hM2E⟩ ⟨by simp[xF,fY,fO],rfl,rfl⟩ ?_
    rintro⟨k,wL,HL,fpL,ML⟩ ⟨hk,hoL,ndL,hfpL,hxL,hM0L,⟨zzL,hM1L,hzzL⟩,hM2L⟩
    simp only at hk hoL ndL hfpL hxL hM0L hM1L hM2L
    obtain⟨k1L,k2L,k3L,k4L⟩:=hoL.cell
    have r0L:∀(e:List AV) (h:AH) (off n:Nat),(St.mk e ML h).cells (.lp ([]:List (List AV)).length off) n=sub (v.c β) off n:=fun e h off n=>ck hM0L
    have r2L:∀(e:List AV) (h:AH) (off n:Nat),(St.mk e ML h).cells (.lp (([]:List (List AV)).length+2) off) n=sub [AV.int .i64 v.id,wE,w1,wL,.nils] off n:=fun e h off n=>ck hM2L
    have s2L:∀(e:List AV) (h:AH) (a:AV),bU a=true→(St.mk e ML h).store (.lp (([]:List (List AV)).length+2) 3) [a]=some ⟨e,ML.set (([]:List (List AV)).length+2) (cD [AV.int .i64 v.id,wE,w1,wL,.nils] 3 [a]),h⟩:=fun e h a ha=>kU hM2L (by simp) ha
    simp only[EZ,ag,Nat.reduceAdd,Nat.reduceBEq,jz,eV,eY,eU,fk,xF,r0L,ar.c,L1]
    refine bP (fun hlt=>?_) (fun hge=>?_)
    · have hlt:k<v.links.length:=by simpa using hlt
      have i0:=dU (β:=β) (sz:=7) (ex:=false) (ce:=aB.c β) hlt
      have he:=hv6 _ (List.getElem_mem hlt)
      generalize hxe:v.links[k]=x at *
      simp only[EZ,ag,Nat.reduceAdd,Nat.reduceBEq,jz,eV,eY,eU,fk,i0,aB.c,aE,r0L,ar.c,r2L,k1L,k2L,k3L]
      refine al.ref (by simp only[EO]) (Ey β x he _) ?_
      rintro _ Hc fr
      replace fr:aV HL _ _ _:=fr
      obtain⟨aw,fw,rfl,ow,nw,bw,ew⟩:=fr.a1
      have hdis:(fpL++fw).Nodup:=dO ndL nw (fun c hc=>hoL.lt c hc) bw
      replace hoL:=hoL.ext ew
      have hx1:=hxL.trans ew
      have oo:=ow
      simp only[aB.cd,fW,fN,gB,iH,iv]at oo
      obtain⟨_,_,_,_,rfl,_,⟨rfl,rfl⟩,⟨_,_,_,_,rfl,_,⟨rfl,rfl⟩,⟨az2,_,_,_,rfl,_,uz2,⟨_,_,_,_,rfl,_,⟨rfl,rfl⟩,⟨az4,_,_,_,rfl,_,uz4,⟨_,_,_,_,rfl,_,⟨rfl,rfl⟩,⟨az6,_,_,_,rfl,_,uz6,⟨rfl,_⟩⟩⟩⟩⟩⟩⟩⟩:=oo
      obtain⟨cz2a,cz2b,cz2c,cz2d⟩:=uz2.cell
      obtain⟨cz4a,cz4b,cz4c,cz4d⟩:=uz4.cell
      obtain⟨cz6a,cz6b,cz6c,cz6d⟩:=uz6.cell
      obtain⟨v',H',fp',ea,o',nd',hf',hl',hm'⟩:=cY (bytes:=104) hoL hdis (by omega) rfl ow (by simp only[List.length_map,List.length_take,aQ];omega)
      obtain⟨j1,j2,j3,j4⟩:=o'.cell
      simp only[EZ,ag,Nat.reduceAdd,Nat.reduceBEq,jz,eV,eY,eU,fk,EA,aE,ER,cz2a,cz2b,cz2c,cz4a,cz4b,cz4c,cz6a,cz6b,cz6c,r2L,k1L,k2L,k3L,ea,j1,j2,j3,s2L _ _ _ j2]
      have hl9:=hxL.len
      have hl8:=hx1.len
      have hb':∀c∈fp',HE.length≤c:=fun c hc=>by
        rcases hm' c hc with g|g|g
        · exact hfpL c g
        · have:=bw c g;omega
        · omega
      refine⟨(by first|exact ew.mem _ _ _|exact dg (ew.mem _ _ _)),?_⟩
      exact⟨(k+1,v',H',fp',_),⟨hlt,by simp only;rw[List.take_succ_eq_append_getElem hlt,List.map_append,hxe];exact o',nd',hb',hx1.yZ hl' hf' hfpL,ij hM0L (by simp),⟨zzL,ij hM1L (by simp),hzzL⟩,g8 hM2L⟩,by simp only;omega,⟨by rw[wN (by omega)];simp[xF,fY,fO],rfl,rfl⟩⟩
    have hge:k=v.links.length:=by simp at hge;omega
    subst hge
    rw[List.take_length]at hoL
    simp only[EZ,ag,Nat.reduceAdd,Nat.reduceBEq,jz,eV,eY,eU,fk,ER,aE]
    refine et aC aD [] (fun y:Nat×AV×AH×List Nat×List (List AV)=>y.1≤v.out.length∧b6 y.2.2.1 y.2.1 (.sl 13 ((v.out.take y.1).map aJ.cd)) y.2.2.2.1∧y.2.2.2.1.Nodup∧(∀c∈y.2.2.2.1,HL.length≤c)∧cn HL y.2.2.1∧y.2.2.2.2[([]:List (List AV)).length]? = some (v.c β)∧(∃zzO,y.2.2.2.2[([]:List (List AV)).length+1]? = some zzO∧zzO.length=5)∧y.2.2.2.2[([]:List (List AV)).length+2]? = some [AV.int .i64 v.id,wE,w1,wL,y.2.1]) (fun y=>v.out.length-y.1)
      (fun y=>xT (.lp ([]:List (List AV)).length 0) (.lp (([]:List (List AV)).length+1) 0) (.lp (([]:List (List AV)).length+2) 0) (.int .i64 y.1) y.2.2.2.2 y.2.2.1) (0,.nils,HL,[],_) ⟨by simp,.nil _,by simp,by simp,cn.refl _,hM0L,⟨zzL,hM1L,hzzL⟩,hM2L⟩ ⟨by simp[xT,fY,fO],rfl,rfl⟩ ?_
    rintro⟨k,wO,HO,fpO,MO⟩ ⟨hk,hoO,ndO,hfpO,hxO,hM0O,⟨zzO,hM1O,hzzO⟩,hM2O⟩
    simp only at hk hoO ndO hfpO hxO hM0O hM1O hM2O
    obtain⟨k1O,k2O,k3O,k4O⟩:=hoO.cell
    have r0O:∀(e:List AV) (h:AH) (off n:Nat),(St.mk e MO h).cells (.lp ([]:List (List AV)).length off) n=sub (v.c β) off n:=fun e h off n=>ck hM0O
    have r2O:∀(e:List AV) (h:AH) (off n:Nat),(St.mk e MO h).cells (.lp (([]:List (List AV)).length+2) off) n=sub [AV.int .i64 v.id,wE,w1,wL,wO] off n:=fun e h off n=>ck hM2O
    have s2O:∀(e:List AV) (h:AH) (a:AV),bU a=true→(St.mk e MO h).store (.lp (([]:List (List AV)).length+2) 4) [a]=some ⟨e,MO.set (([]:List (List AV)).length+2) (cD [AV.int .i64 v.id,wE,w1,wL,wO] 4 [a]),h⟩:=fun e h a ha=>kU hM2O (by simp) ha
    simp only[EZ,ag,Nat.reduceAdd,Nat.reduceBEq,jz,eV,eY,eU,fk,xT,r0O,ar.c,L2]
    refine bP (fun hlt=>?_) (fun hge=>?_)
    · have hlt:k<v.out.length:=by simpa using hlt
      have i0:=dU (β:=β) (sz:=13) (ex:=false) (ce:=aJ.c β) hlt
      have he:=hv8 _ (List.getElem_mem hlt)
      generalize hxe:v.out[k]=x at *
      simp only[EZ,ag,Nat.reduceAdd,Nat.reduceBEq,jz,eV,eY,eU,fk,i0,aJ.c,aE,r0O,ar.c,r2O,k1O,k2O,k3O]
      refine al.ref (by simp only[EO]) (Pz β x.message he _) ?_
      rintro _ Hc fr
      replace fr:aV HO _ _ _:=fr
      obtain⟨aw,fw,rfl,ow,nw,bw,ew⟩:=fr.a1
      have hdis:(fpO++fw).Nodup:=dO ndO nw (fun c hc=>hoO.lt c hc) bw
      replace hoO:=hoO.ext ew
      have hx1:=hxO.trans ew
      have oo:=ow
      simp only[bm.cd,fW,fN,gB,iH,iv]at oo
      obtain⟨_,_,_,_,rfl,_,⟨rfl,rfl⟩,⟨_,_,_,_,rfl,_,⟨rfl,rfl⟩,⟨_,_,_,_,rfl,_,⟨rfl,rfl⟩,⟨_,_,_,_,rfl,_,⟨rfl,rfl⟩,⟨_,_,_,_,rfl,_,⟨rfl,rfl⟩,⟨az5,_,_,_,rfl,_,uz5,⟨_,_,_,_,rfl,_,⟨rfl,rfl⟩,⟨_,_,_,_,rfl,_,⟨rfl,rfl⟩,⟨_,_,_,_,rfl,_,⟨rfl,rfl⟩,⟨_,_,_,_,rfl,_,⟨rfl,rfl⟩,⟨_,_,_,_,rfl,_,⟨rfl,rfl⟩,⟨_,_,_,_,rfl,_,⟨rfl,rfl⟩,⟨rfl,_⟩⟩⟩⟩⟩⟩⟩⟩⟩⟩⟩⟩⟩:=oo
      obtain⟨cz5a,cz5b,cz5c,cz5d⟩:=uz5.cell
      obtain⟨v',H',fp',ea,o',nd',hf',hl',hm'⟩:=cY (bytes:=128) hoO hdis (by omega) rfl (aG.i (k:=.i64) (n:=x.to_) ow) (by simp only[List.length_map,List.length_take,aQ];omega)
      obtain⟨j1,j2,j3,j4⟩:=o'.cell
      simp only[EZ,ag,Nat.reduceAdd,Nat.reduceBEq,jz,eV,eY,eU,fk,EA,aE,ER,cz5a,cz5b,cz5c,r2O,k1O,k2O,k3O,ea,j1,j2,j3,s2O _ _ _ j2]
      have hl9:=hxO.len
      have hl8:=hx1.len
      have hb':∀c∈fp',HL.length≤c:=fun c hc=>by
        rcases hm' c hc with g|g|g
        · exact hfpO c g
        · have:=bw c g;omega
        · omega
      refine⟨(by first|exact ew.mem _ _ _|exact dg (ew.mem _ _ _)),?_⟩
      exact⟨(k+1,v',H',fp',_),⟨hlt,by simp only;rw[List.take_succ_eq_append_getElem hlt,List.map_append,hxe];exact o',nd',hb',hx1.yZ hl' hf' hfpO,ij hM0O (by simp),⟨zzO,ij hM1O (by simp),hzzO⟩,g8 hM2O⟩,by simp only;omega,⟨by rw[wN (by omega)];simp[xT,fY,fO],rfl,rfl⟩⟩
    have hge:k=v.out.length:=by simp at hge;omega
    subst hge
    rw[List.take_length]at hoO
    simp only[EZ,ag,Nat.reduceAdd,Nat.reduceBEq,jz,eV,eY,eU,fk,show ∀(e:List AV) (h:AH) (off n:Nat),(St.mk e MO h).cells (.lp (([]:List (List AV)).length+2) off) n=sub [AV.int .i64 v.id,wE,w1,wL,wO] off n from fun e h off n=>ck hM2O,show ∀(e:List AV) (h:AH),(St.mk e MO h).store (.lp (([]:List (List AV)).length+1) 0) [AV.int .i64 v.id,wE,w1,wL,wO]=some ⟨e,MO.set (([]:List (List AV)).length+1) [AV.int .i64 v.id,wE,w1,wL,wO],h⟩ from fun e h=>iW hM1O (by rw[hzzO];rfl) (by simp[Gk,k2E,a2,k2L,k2O]),show ∀(e:List AV) (h:AH) (off n:Nat),(St.mk e (MO.set (([]:List (List AV)).length+1) [AV.int .i64 v.id,wE,w1,wL,wO]) h).cells (.lp (([]:List (List AV)).length+1) off) n=sub [AV.int .i64 v.id,wE,w1,wL,wO] off n from fun e h off n=>ck (g8 hM1O),ER,aE]
    have z1:=((o1.ext hxE).ext hxL).ext hxO
    have zE:=(hoE.ext hxL).ext hxO
    have zL:=hoL.ext hxO
    have y1:=e1.len
    have yE:=hxE.len
    have yL:=hxL.len
    have hE2:∀c∈fpE,c<HE.length:=fun c hc=>hoE.lt c hc
    have hL2:∀c∈fpL,c<HL.length:=fun c hc=>hoL.lt c hc
    have h12:∀c∈f1,c<H1.length:=fun c hc=>o1.lt c hc
    obtain⟨N,hN⟩:=(((e1.trans hxE).trans hxL).trans hxO).out
    refine⟨by simp[dJ,dY,a2,a3,a4,k2E,k3E,k4E,k2L,k3L,k4L,k2O,k3O,k4O,mO,mW,oU],_,N,fpE++(f1++(fpL++(fpO++[]))),rfl,hN,.i (.o zE (.o z1 (.o zL (.o hoO .nil)))),?_,fun c hc=>?_⟩
    · rw[List.append_nil]
      refine List.nodup_append.2 ⟨ndE,List.nodup_append.2 ⟨n1,List.nodup_append.2 ⟨ndL,ndO,fun x hx y hy=>?_⟩,fun x hx y hy=>?_⟩,fun x hx y hy=>?_⟩
      · have:=hL2 x hx;have:=hfpO y hy;omega
      · have:=h12 x hx
        rcases List.mem_append.1 hy with g|g
        · have:=hfpL y g;omega
        · have:=hfpO y g;omega
      · have:=hE2 x hx;have:=hfpE x hx
        rcases List.mem_append.1 hy with g|g
        · have:=h12 y g;omega
        · rcases List.mem_append.1 g with g|g
          · have:=hfpL y g;omega
          · have:=hfpO y g;omega
    · simp only[List.append_nil,List.mem_append]at hc
      rcases hc with g|g|g|g
      · have:=hfpE c g;omega
      · have:=b1 c g;omega
      · have:=hfpL c g;omega
      · have:=hfpO c g;omega)
end Go.Proofs.YtccjhmhkfnnmaaaGreat
namespace Go.Proofs.YtccjhmhkfnnmaaaGreat
open Go.AM
variable {Γ:bY}
theorem vv{H:AH}{b:Nat}{cs:List AV}{off:Nat}{v:AV}(hg:b7 H b=some (0,cs))(ho:off+1≤cs.length)(hv:bj v=true)(e:List AV)(l:List (List AV)):(St.mk e l H).store (.gp b 0 off) [v]=some ⟨e,l,H.set b (some (0,cD cs off [v]))⟩:=by
  simp only[St.store,hg,Option.bind_some,if_true,List.length_cons,List.length_nil,Nat.zero_add]
  rw[if_pos ho];simp[hv]
theorem zn{H:AH}{b:Nat}{x:Nat×List AV}(h:b<H.length):b7 (H.set b (some x)) b=some x:=by simp[b7,h]
theorem B4(a:Int):∃x,cV .and .num (.int .i64 a) (.int .i64 255)=some (.int .i64 x)∧0≤x∧x≤255:=zk a (m:=255) (by omega)
theorem Pb(H:AH){b:Nat}{bs:List Int}(hb:bs.length≤1073741824)(hc:rY H b bs):T Tryz.prog Γ Fn.K5 [.gp b 0 0] H fun v h'=>∃x:Int,v=.int .i64 x∧0≤x∧x≤255∧rY h' b bs∧h'.length=H.length∧∀c,c≠b→h'[c]? = H[c]?:=by
  obtain⟨i,hh,hi,hg⟩:=hc
  have hbl:b<H.length:=g6 hg
  have L0:=di false 1 false bs (fun n=>[AV.int .u8 n])
  have cl:∀(e:List AV) (l:List (List AV)) (off n:Nat),(St.mk e l H).cells (.gp b 0 off) n=sub [.vs false 1 false (bs.map fun n=>[.int .u8 n]),.int .i64 i,.int .i64 hh] off n:=fun e l off n=>bp hg
  refine Ob (au aC aD [] _ _ _ ?_)
  unfold Kn
  obtain⟨h1,e1⟩:∃h1,h1=IntKind.i64.wrap (IntKind.i64.wrap (hh*6364136223846793005)+1442695040888963407):=⟨_,rfl⟩
  have st:=vv (off:=2) (v:=.int .i64 h1) hg (by simp) rfl
  have eo:cD [AV.vs false 1 false (bs.map fun n=>[.int .u8 n]),.int .i64 i,.int .i64 hh] 2 [.int .i64 h1]=[.vs false 1 false (bs.map fun n=>[.int .u8 n]),.int .i64 i,.int .i64 h1]:=rfl
  rw[eo]at st
  obtain⟨H1,hH1⟩:∃H1,H1=H.set b (some (0,[.vs false 1 false (bs.map fun n=>[.int .u8 n]),.int .i64 i,.int .i64 h1])):=⟨_,rfl⟩
  rw[←hH1]at st
  have hg1:b7 H1 b=some (0,[.vs false 1 false (bs.map fun n=>[.int .u8 n]),.int .i64 i,.int .i64 h1]):=by rw[hH1];exact zn hbl
  have cl1:∀(e:List AV) (l:List (List AV)) (off n:Nat),(St.mk e l H1).cells (.gp b 0 off) n=sub [.vs false 1 false (bs.map fun n=>[.int .u8 n]),.int .i64 i,.int .i64 h1] off n:=fun e l off n=>bp hg1
  have hl1:H1.length=H.length:=by rw[hH1];simp
  have hf1:∀c,c≠b→H1[c]? = H[c]?:=fun c hc=>by rw[hH1];exact List.getElem?_set_ne (Ne.symm hc)
  obtain⟨x1,s1⟩:=Du .i64 .u64 h1 (b:=33) (by omega)
  obtain⟨x2,s2⟩:=Du .i64 .u64 h1 (b:=47) (by omega)
  obtain⟨x3,s3⟩:=K7 .i64 x1 x2
  obtain⟨x4,s4,x40,x41⟩:=B4 x3
  simp only[EZ,ag,Nat.reduceAdd,Nat.reduceBEq,Bg,tv,sX,tZ,cl,←e1,st,cl1,s1,s2,s3,s4,L0]
  by_cases hlt:i<(bs.length:Int)
  rotate_left
  · simp only[EZ,ag,Nat.reduceAdd,Nat.reduceBEq,Bg,tv,sX,tZ,decide_eq_false hlt]
    first|exact⟨rfl,x4,rfl,x40,x41,⟨i,h1,hi,hg1⟩,hl1,hf1⟩|exact⟨x4,rfl,x40,x41,⟨i,h1,hi,hg1⟩,hl1,hf1⟩
  obtain⟨k,rfl⟩:∃k:Nat,i=k:=⟨i.toNat,by omega⟩
  have hk:k<bs.length:=by omega
  have i0:=dU (β:=false) (sz:=1) (ex:=false) (ce:=fun n:Int=>[AV.int .u8 n]) hk
  obtain⟨x5,s5,x50,x51⟩:=B4 (IntKind.i64.wrap (x4+IntKind.i64.wrap bs[k]))
  have st2:=vv (off:=1) (v:=.int .i64 (IntKind.i64.wrap ((k:Int)+1))) hg1 (by simp) rfl
  have hw:IntKind.i64.wrap ((k:Int)+1)=((k+1:Nat):Int):=wN (by omega)
  simp only[EZ,ag,Nat.reduceAdd,Nat.reduceBEq,Bg,tv,sX,tZ,decide_eq_true hlt,cl1,i0,Ip,s5,st2]
  have hbl1:b<H1.length:=by omega
  have fin:rY (H1.set b (some (0,cD [AV.vs false 1 false (bs.map fun n=>[.int .u8 n]),.int .i64 (k:Int),.int .i64 h1] 1 [.int .i64 (IntKind.i64.wrap ((k:Int)+1))]))) b bs:=⟨((k+1:Nat):Int),h1,by omega,by rw[zn hbl1,hw];rfl⟩
  have hl2:(H1.set b (some (0,cD [AV.vs false 1 false (bs.map fun n=>[.int .u8 n]),.int .i64 (k:Int),.int .i64 h1] 1 [.int .i64 (IntKind.i64.wrap ((k:Int)+1))]))).length=H.length:=by simp[hl1]
  have hf2:∀c,c≠b→(H1.set b (some (0,cD [AV.vs false 1 false (bs.map fun n=>[.int .u8 n]),.int .i64 (k:Int),.int .i64 h1] 1 [.int .i64 (IntKind.i64.wrap ((k:Int)+1))])))[c]? = H[c]?:=fun c hc=>by rw[List.getElem?_set_ne (Ne.symm hc)];exact hf1 c hc
  first|exact⟨rfl,x5,rfl,x50,x51,fin,hl2,hf2⟩|exact⟨x5,rfl,x50,x51,fin,hl2,hf2⟩
theorem AY{x n:Int}(hx:0≤x)(hn:0<n):∃r,cV .rem .num (.int .i64 x) (.int .i64 n)=some (.int .i64 r)∧0≤r∧r<n:=by
  refine⟨x.tmod n,?_,?_,?_⟩
  · simp only[cV,hJ,if_true];rw[if_neg (by omega)]
  · exact Int.tmod_nonneg n hx
  · exact Int.tmod_lt_of_pos x hn
structure tr (H h':AH) (b:Nat) (bs:List Int):Prop where
  cur:rY h' b bs
  len:h'.length=H.length
  fr:∀c,c≠b→h'[c]? = H[c]?
theorem tr.trans{H h1 h2:AH}{b:Nat}{bs:List Int}(a:tr H h1 b bs)(c:tr h1 h2 b bs):tr H h2 b bs:=⟨c.cur,c.len.trans a.len,fun x hx=>(c.fr x hx).trans (a.fr x hx)⟩
theorem pJ(H:AH){b:Nat}{bs:List Int}(hb:bs.length≤1073741824)(hc:rY H b bs):T Tryz.prog Γ Fn.K5 [.gp b 0 0] H fun v h'=>∃x:Int,v=.int .i64 x∧0≤x∧x≤255∧tr H h' b bs:=
  (Pb H hb hc).mono fun v h' ⟨x,e,h0,h1,h2,h3,h4⟩=>⟨x,e,h0,h1,⟨h2,h3,h4⟩⟩
theorem N6(H:AH){b:Nat}{bs:List Int}(hb:bs.length≤1073741824)(hc:rY H b bs)(n:Int):T Tryz.prog Γ Fn.nO [.gp b 0 0,.int .i64 n] H fun v h'=>∃x:Int,v=.int .i64 x∧0≤x∧(0<n→x<n)∧tr H h' b bs:=by
  have h0:tr H H b bs:=⟨hc,rfl,fun _ _=>rfl⟩
  refine Rf (au aC aD [] _ _ _ ?_)
  unfold Ic
  by_cases c1:n≤0
  · simp only[EZ,ag,Nat.reduceAdd,Nat.reduceBEq,rN,decide_eq_true c1]
    first|exact⟨rfl,0,rfl,by omega,fun h=>by omega,h0⟩|exact⟨0,rfl,by omega,fun h=>by omega,h0⟩
  by_cases c2:n≤256
  · simp only[EZ,ag,Nat.reduceAdd,Nat.reduceBEq,rN,decide_eq_false c1,decide_eq_true c2]
    refine al.ref (by simp only[EO]) (pJ _ hb hc) ?_
    rintro _ H1 ⟨x,rfl,x0,x1,d1⟩
    replace d1:tr H H1 b bs:=d1
    obtain⟨r,e,r0,r1⟩:=AY x0 (show 0<n by omega)
    simp only[EZ,ag,Nat.reduceAdd,Nat.reduceBEq,rN,e]
    first|exact⟨rfl,r,rfl,r0,fun _=>r1,d1⟩|exact⟨r,rfl,r0,fun _=>r1,d1⟩
  simp only[EZ,ag,Nat.reduceAdd,Nat.reduceBEq,rN,decide_eq_false c1,decide_eq_false c2]
  refine al.ref (by simp only[EO]) (pJ _ hb hc) ?_
  rintro _ H1 ⟨x,rfl,x0,x1,d1⟩
  replace d1:tr H H1 b bs:=d1
  simp only[EZ,ag,Nat.reduceAdd,Nat.reduceBEq,rN]
  refine al.ref (by simp only[EO]) (pJ _ hb d1.cur) ?_
  rintro _ H2 ⟨y,rfl,y0,y1,d2⟩
  replace d2:tr H1 H2 b bs:=d2
  simp only[EZ,ag,Nat.reduceAdd,Nat.reduceBEq,rN]
  refine al.ref (by simp only[EO]) (pJ _ hb d2.cur) ?_
  rintro _ H3 ⟨z,rfl,z0,z1,d3⟩
  replace d3:tr H2 H3 b bs:=d3
  have w1:IntKind.i64.wrap (x*65536)=x*65536:=by
    have:x*65536=((x.toNat*65536:Nat):Int):=by omega
    rw[this];exact fo (by omega) (by omega)
  have w2:IntKind.i64.wrap (y*256)=y*256:=by
    have:y*256=((y.toNat*256:Nat):Int):=by omega
    rw[this];exact fo (by omega) (by omega)
  have w3:IntKind.i64.wrap (x*65536+y*256)=x*65536+y*256:=by
    have:x*65536+y*256=((x.toNat*65536+y.toNat*256:Nat):Int):=by omega
    rw[this];exact fo (by omega) (by omega)
  have w4:IntKind.i64.wrap (x*65536+y*256+z)=x*65536+y*256+z:=by
    have:x*65536+y*256+z=((x.toNat*65536+y.toNat*256+z.toNat:Nat):Int):=by omega
    rw[this];exact fo (by omega) (by omega)
  obtain⟨r,e,r0,r1⟩:=AY (show 0≤x*65536+y*256+z by omega) (show 0<n by omega)
  simp only[EZ,ag,Nat.reduceAdd,Nat.reduceBEq,rN,w1,w2,w3,w4,e]
  have d:=(d1.trans d2).trans d3
  first|exact⟨rfl,r,rfl,r0,fun _=>r1,d⟩|exact⟨r,rfl,r0,fun _=>r1,d⟩
theorem cj(H:AH){b:Nat}{bs:List Int}(hb:bs.length≤1073741824)(hc:rY H b bs)(n:Int):T Tryz.prog Γ Fn.nO [.gp b 0 0,.int .i64 n] H fun v h'=>∃x:Int,v=.int .i64 x∧0≤x∧(0<n→x<n)∧b9 H h' b bs:=
  (N6 H hb hc n).mono fun v h' ⟨x,e,h0,h1,d⟩=>⟨x,e,h0,h1,⟨d.cur,Nat.le_of_eq d.len.symm,fun c _ hcb=>d.fr c hcb⟩⟩
theorem PA(H:AH){b:Nat}{bs:List Int}(hb:bs.length≤1073741824)(hc:rY H b bs){w:AV}{fp:List Nat}{l:List Int}(o:b6 H w (.sl 1 (l.map fun n=>[.i .i64 n])) fp)(hbf:b∉fp)(h0:0<l.length):
    T Tryz.prog Γ Fn.Lw [.gp b 0 0,w] H fun v h'=>∃x:Int,v=.int .i64 x∧b9 H h' b bs:=by
  obtain⟨c1,c2,c3,c4⟩:=o.cell
  have La:=(cP o).2
  rw[List.length_map]at La
  refine MB (au aC aD [] _ _ _ ?_)
  unfold G5
  simp only[EZ,ag,Nat.reduceAdd,Nat.reduceBEq,Fa,La]
  refine al.ref (by simp only[EO]) (cj _ hb hc _) ?_
  rintro _ H1 ⟨x,rfl,x0,x1,d1⟩
  replace d1:b9 H H1 b bs:=d1
  obtain⟨k,rfl⟩:∃k:Nat,x=k:=⟨x.toNat,by omega⟩
  have hk:k<l.length:=by have:=x1 (by omega);omega
  obtain⟨p,e1,e2⟩:=FC (d1.own o hbf) hk
  simp only[EZ,ag,Nat.reduceAdd,Nat.reduceBEq,Fa,e1,e2]
  first|exact⟨rfl,_,rfl,d1⟩|exact⟨_,rfl,d1⟩
theorem Ac(h:AH)(l:List Int){n:Nat}(hn:l.length=n):b6 (h++[some (0,(l.map fun n=>[AV.int .i64 n]).flatten)]) (.gs h.length 0 0 n n 1 true) (.sl 1 (l.map fun n=>[.i .i64 n])) [h.length]:=by
  subst hn
  have hl:(l.map fun n=>[AV.int .i64 n]).flatten=(l.map fun n=>[CD.i .i64 n]).flatten.map (CD.av false):=by simp[List.map_flatten,Function.comp_def,CD.gI]
  have:=b6.sl_mk (h:=h++[some (0,(l.map fun n=>[AV.int .i64 n]).flatten)]) (b:=h.length) (g:=0) (cap:=l.length) (sz:=1) (ex:=true) («as»:=(l.map fun n=>[AV.int .i64 n]).flatten) (tail:=[]) (xs:=l.map fun n=>[CD.i .i64 n]) (fp:=[])
    (by rw[List.append_nil];exact cW _ _) (fun y hy=>by obtain⟨x,_,rfl⟩:=List.mem_map.1 hy;rfl) (by simp) (by simp) (by rw[hl];exact kH false (uc l))
  simpa using this
theorem KW(z:AV):(List.replicate 5 [z]).flatten=[z,z,z,z,z]:=rfl
theorem QF(z:AV):(List.replicate 4 [z]).flatten=[z,z,z,z]:=rfl
theorem KM(h:AH):T Tryz.prog Γ Fn.F4 [] h fun v h'=>v=.agg ((ae.mk 2 0).c false)∧h'=h:=by
  refine Hu (au aC aD [] _ _ _ ?_)
  unfold Ek
  simp only[EZ,ag,Nat.reduceAdd,Nat.reduceBEq,DD]
  first|exact⟨rfl,rfl⟩|exact rfl
theorem FL{x n:Int}(hn:0<n):∃r,cV .rem .num (.int .i64 x) (.int .i64 n)=some (.int .i64 r)∧-n<r∧r<n:=by
  refine⟨x.tmod n,?_,?_,?_⟩
  · simp only[cV,hJ,if_true];rw[if_neg (by omega)]
  · have:=Int.tmod_lt_of_pos (-x) hn;rw[Int.neg_tmod]at this;omega
  · exact Int.tmod_lt_of_pos x hn
def C5(n lo hi:Int):Bool:=decide (lo≤n) && decide (n≤hi)
theorem KY(n lo hi:Int)(h:AH):T Tryz.prog Γ Fn.lH [.int .i64 n,.int .i64 lo,.int .i64 hi] h fun v h'=>v=.bool (C5 n lo hi)∧h'=h:=by
  refine JA (au aC aD [] _ _ _ ?_)
  unfold Ef
  by_cases c1:lo≤n<;>by_cases c2:n≤hi<;>(simp only[EZ,ag,Nat.reduceAdd,Nat.reduceBEq,Bo,c1,c2,decide_true,decide_false];first|exact⟨rfl,by simp[C5,c1,c2]⟩|simp[C5,c1,c2])
theorem Io(n m:Int)(h0:1≤m)(h1:m≤1000000000000)(h:AH):T Tryz.prog Γ Fn.SD [.int .i64 n,.int .i64 m] h fun v h'=>(∃x:Int,v=.int .i64 x∧0≤x∧x<m)∧h'=h:=by
  obtain⟨r,e1,r0,r1⟩:=FL (x:=n) (n:=m) (by omega)
  have w:IntKind.i64.wrap (r+m)=r+m:=by
    have:r+m=(((r+m).toNat:Nat):Int):=by omega
    rw[this];exact fo (by omega) (by omega)
  obtain⟨q,e2,q0,q1⟩:=AY (x:=r+m) (n:=m) (by omega) (by omega)
  have hin:C5 m 1 1000000000000=true:=by simp[C5,h0,h1]
  refine MK (au aC aD [] _ _ _ ?_)
  unfold Ko
  simp only[EZ,ag,Nat.reduceAdd,Nat.reduceBEq,Fc]
  refine al.val (by simp only[EO]) (KY _ _ _ _) ?_
  simp only[EZ,ag,Nat.reduceAdd,Nat.reduceBEq,Fc,hin,e1,w,e2]
  first|exact⟨rfl,⟨q,rfl,q0,q1⟩,rfl⟩|exact⟨rfl,q,rfl,q0,q1⟩|exact⟨⟨q,rfl,q0,q1⟩,rfl⟩|exact⟨q,rfl,q0,q1⟩
theorem M6(n:Int)(h:AH):T Tryz.prog Γ Fn.IY [.int .i64 n] h fun v h'=>(∃y:ae,v=.agg (y.c false))∧h'=h:=by
  refine Hs (au aC aD [] _ _ _ ?_)
  unfold EX
  simp only[EZ,ag,Nat.reduceAdd,Nat.reduceBEq,Af]
  refine al.ref (by simp only[EO]) (Io n 1000000 (by omega) (by omega) _) ?_
  rintro _ H1 ⟨⟨x,rfl,x0,x1⟩,e⟩
  replace e:H1=h:=e
  subst e
  simp only[EZ,ag,Nat.reduceAdd,Nat.reduceBEq,Af]
  first|exact⟨rfl,⟨⟨0,x⟩,rfl⟩,rfl⟩|exact⟨rfl,⟨0,x⟩,rfl⟩|exact⟨⟨⟨0,x⟩,rfl⟩,rfl⟩|exact⟨⟨0,x⟩,rfl⟩
theorem OV(H:AH){b:Nat}{bs:List Int}(hb:bs.length≤1073741824)(hc:rY H b bs):T Tryz.prog Γ Fn.Sv [.gp b 0 0] H fun v h'=>∃y:ae,v=.agg (y.c false)∧b9 H h' b bs:=by
  obtain⟨i9,h9,_,hg9⟩:=hc
  have hbl:b<H.length:=g6 hg9
  have ints:∀(H1:AH) (l:List Int) (n:Nat),b9 H H1 b bs→l.length=n→0<n→T Tryz.prog Γ Fn.Lw [.gp b 0 0,.gs H1.length 0 0 n n 1 true] (H1++[some (0,(l.map fun n=>[AV.int .i64 n]).flatten)]) fun v h'=>∃x:Int,v=.int .i64 x∧b9 H h' b bs:=fun H1 l n d hn h0=>by
    have hne:b∉[H1.length]:=by simp;have:=d.len;omega
    have d2:b9 H1 (H1++[some (0,(l.map fun n=>[AV.int .i64 n]).flatten)]) b bs:=.rI d.cur (cn.app _ _)
    exact(PA _ hb d2.cur (Ac H1 l hn) hne (by omega)).mono fun v h' ⟨x,e,d3⟩=>⟨x,e,(d.trans d2).trans d3⟩
  refine Pw (au aC aD [] _ _ _ ?_)
  unfold GB
  simp only[EZ,ag,Nat.reduceAdd,Nat.reduceBEq,kB]
  refine al.ref (by simp only[EO]) (cj _ hb ⟨i9,h9,by assumption,hg9⟩ _) ?_
  rintro _ H1 ⟨x,rfl,x0,x1,d1⟩
  replace d1:b9 H H1 b bs:=d1
  by_cases k0:x=0
  · simp only[EZ,ag,Nat.reduceAdd,Nat.reduceBEq,kB,EA,KW,ah,decide_eq_true k0]
    refine al.ref (by simp only[EO]) (ints H1 [0,1,2,5,-1] 5 d1 rfl (by omega)) ?_
    rintro _ H2 ⟨y,rfl,d2⟩
    replace d2:b9 H H2 b bs:=d2
    simp only[EZ,ag,Nat.reduceAdd,Nat.reduceBEq,kB]
    refine al.val (by simp only[EO]) (vy _ _) ?_
    simp only[EZ,ag,Nat.reduceAdd,Nat.reduceBEq,kB,ae.c]
    first|exact⟨rfl,⟨1,y⟩,rfl,d2⟩|exact⟨⟨1,y⟩,rfl,d2⟩
  by_cases k1:x=1
  · simp only[EZ,ag,Nat.reduceAdd,Nat.reduceBEq,kB,EA,ah,decide_eq_false k0,decide_eq_true k1]
    refine al.val (by simp only[EO]) (KM _) ?_
    simp only[EZ,ag,Nat.reduceAdd,Nat.reduceBEq,kB,ae.c]
    first|exact⟨rfl,⟨2,0⟩,rfl,d1⟩|exact⟨⟨2,0⟩,rfl,d1⟩
  by_cases k2:x=2
  · simp only[EZ,ag,Nat.reduceAdd,Nat.reduceBEq,kB,EA,KW,QF,ah,decide_eq_false k0,decide_eq_false k1,decide_eq_true k2]
    refine al.ref (by simp only[EO]) (ints H1 [0,1,2,3,-1] 5 d1 rfl (by omega)) ?_
    rintro _ H2 ⟨y,rfl,d2⟩
    replace d2:b9 H H2 b bs:=d2
    simp only[EZ,ag,Nat.reduceAdd,Nat.reduceBEq,kB,EA,QF]
    refine al.ref (by simp only[EO]) (ints H2 [0,-1,999999,1000000] 4 d2 rfl (by omega)) ?_
    rintro _ H3 ⟨z,rfl,d3⟩
    replace d3:b9 H H3 b bs:=d3
    simp only[EZ,ag,Nat.reduceAdd,Nat.reduceBEq,kB]
    first|exact⟨rfl,⟨y,z⟩,rfl,d3⟩|exact⟨⟨y,z⟩,rfl,d3⟩
  simp only[EZ,ag,Nat.reduceAdd,Nat.reduceBEq,kB,EA,ah,decide_eq_false k0,decide_eq_false k1,decide_eq_false k2]
  refine al.ref (by simp only[EO]) (cj _ hb d1.cur _) ?_
  rintro _ H2 ⟨y,rfl,y0,y1,d2⟩
  replace d2:b9 H1 H2 b bs:=d2
  simp only[EZ,ag,Nat.reduceAdd,Nat.reduceBEq,kB]
  refine al.ref (by simp only[EO]) (M6 _ _) ?_
  rintro _ H3 ⟨⟨z,rfl⟩,e⟩
  replace e:H3=H2:=e
  subst e
  simp only[EZ,ag,Nat.reduceAdd,Nat.reduceBEq,kB,ae.c]
  first|exact⟨rfl,z,rfl,d1.trans d2⟩|exact⟨z,rfl,d1.trans d2⟩
theorem KU(a:Int):∃x,cV .and .num (.int .i64 a) (.int .i64 1073741823)=some (.int .i64 x)∧0≤x∧x≤1073741823:=zk a (m:=1073741823) (by omega)
theorem PF(bs:List Int)(hb:bs.length≤1073741824)(h:AH):T Tryz.prog Γ Fn.Se [.vs false 1 false (bs.map fun n=>[.int .u8 n])] h fun v h'=>∃b,v=.gp b 0 0∧rY h' b bs∧cn h h'∧h.length≤b:=by
  have L0:=di false 1 false bs (fun n=>[AV.int .u8 n])
  refine LM (au aC aD [31] _ _ _ ?_)
  unfold JH
  simp only[EZ,ag,Nat.reduceAdd,Nat.reduceBEq,zQ,L0]
  obtain⟨s0,hs0⟩:∃s0,s0=IntKind.i64.wrap (193017+(bs.length:Int)):=⟨_,rfl⟩
  rw[←hs0]
  refine et aC aD [31] (fun x:Nat×Int=>x.1≤bs.length) (fun x=>bs.length-x.1)
    (fun x=>qL (.vs false 1 false (bs.map fun n=>[.int .u8 n])) (.int .i64 x.2) (.int .i64 x.1) [] h) (0,s0) (by simp) ⟨by simp[qL,fY,fO],rfl,rfl⟩ ?_
  rintro⟨k,hh⟩ hk
  simp only at hk
  have fin:∀z:Int,rY (h++[some (0,[AV.vs false 1 false (bs.map fun n=>[AV.int .u8 n]),.int .i64 0,.int .i64 z])]) h.length bs:=fun z=>⟨0,z,by omega,cW _ _⟩
  have bg:∀(s:St) (z:Int),Cq true s (some [AV.vs false 1 false (bs.map fun n=>[AV.int .u8 n]),.int .i64 0,.int .i64 z])=.val (.gp s.heap.length 0 0) (s.push [AV.vs false 1 false (bs.map fun n=>[AV.int .u8 n]),.int .i64 0,.int .i64 z]):=fun s z=>tN _ _ rfl
  by_cases c1:(k:Int)<(bs.length:Int)
  rotate_left
  · simp only[EZ,ag,Nat.reduceAdd,Nat.reduceBEq,zQ,qL,L0,decide_eq_false c1,bg,i6]
    exact⟨rfl,h.length,rfl,fin _,cn.app _ _,Nat.le_refl _⟩
  by_cases c2:(k:Int)<4000
  rotate_left
  · simp only[EZ,ag,Nat.reduceAdd,Nat.reduceBEq,zQ,qL,L0,decide_eq_true c1,decide_eq_false c2,bg,i6]
    exact⟨rfl,h.length,rfl,fin _,cn.app _ _,Nat.le_refl _⟩
  have hlt:k<bs.length:=by omega
  have i0:=dU (β:=false) (sz:=1) (ex:=false) (ce:=fun n:Int=>[AV.int .u8 n]) hlt
  obtain⟨x,e,_,_⟩:=KU (IntKind.i64.wrap (IntKind.i64.wrap (IntKind.i64.wrap (hh*137)+IntKind.i64.wrap bs[k])+11))
  simp only[EZ,ag,Nat.reduceAdd,Nat.reduceBEq,zQ,qL,L0,decide_eq_true c1,decide_eq_true c2,i0,Ip,e]
  exact⟨(k+1,x),hlt,by simp only;omega,⟨by rw[wN (by omega)];simp[qL,fY,fO],rfl,rfl⟩⟩
end Go.Proofs.YtccjhmhkfnnmaaaGreat
namespace Go.Proofs.YtccjhmhkfnnmaaaGreat
open Go.AM
variable {Γ:bY}
def fF(v:ar)(to_:Int)(m:bm):ar:=if su v.links to_=true then { v with out:=v.out++[⟨to_,m⟩] }else v
set_option maxHeartbeats 1000000 in
theorem HM(v:ar)(hL:v.links.length≤1048576)(ho:v.out.length≤1048576)(to_:Int)(m:bm)(H:AH){b:Nat}{f:List Nat}(a:kt H b v f){am:List AV}{fm:List Nat}(om:aG H am m.cd fm)(nm:fm.Nodup)(dm:∀c∈fm,c∉f∧c≠b):
    T Tryz.prog Γ Fn.Lr [.gp b 0 0,.int .i64 to_,.agg am] H fun r H'=>r=.tup []∧gg H b (fun c=>c∈f∨c∈fm) H' (fF v to_ m):=by
  obtain⟨wE,w2,wL,w4,fE,f2,fL,f4,rfl,o⟩:=a
  have hb:=o.hb
  have bf:=o.bf
  have blt:=o.blt
  have vlt:=o.lt
  have cb:∀(e:List AV) (L:List (List AV)) (off n:Nat),(St.mk e L H).cells (.gp b 0 off) n=sub [.int .i64 v.id,wE,w2,wL,w4] off n:=fun e L off n=>bp hb
  obtain⟨a1,a2,a3,a4⟩:=o.oE.cell
  obtain⟨b1,b2,b3,b4⟩:=o.o2.cell
  obtain⟨c1,c2,c3,c4⟩:=o.oL.cell
  obtain⟨d1,d2,d3,d4⟩:=o.o4.cell
  obtain⟨_,lE⟩:=cP o.oE
  rw[List.length_map]at lE
  have oo:=om
  simp only[bm.cd,fW,fN,gB,iH,iv]at oo
  obtain⟨_,_,_,_,rfl,_,⟨rfl,rfl⟩,⟨_,_,_,_,rfl,_,⟨rfl,rfl⟩,⟨_,_,_,_,rfl,_,⟨rfl,rfl⟩,⟨_,_,_,_,rfl,_,⟨rfl,rfl⟩,⟨_,_,_,_,rfl,_,⟨rfl,rfl⟩,⟨az5,_,_,_,rfl,_,uz5,⟨_,_,_,_,rfl,_,⟨rfl,rfl⟩,⟨_,_,_,_,rfl,_,⟨rfl,rfl⟩,⟨_,_,_,_,rfl,_,⟨rfl,rfl⟩,⟨_,_,_,_,rfl,_,⟨rfl,rfl⟩,⟨_,_,_,_,rfl,_,⟨rfl,rfl⟩,⟨_,_,_,_,rfl,_,⟨rfl,rfl⟩,⟨rfl,_⟩⟩⟩⟩⟩⟩⟩⟩⟩⟩⟩⟩⟩:=oo
  obtain⟨cz5a,cz5b,cz5c,cz5d⟩:=uz5.cell
  refine LJ (au aC aD [] _ _ _ ?_)
  unfold Ht
  simp only[EZ,ag,Nat.reduceAdd,Nat.reduceBEq,Cd,sO,aE,cb]
  refine al.fV (by simp only[EO,a3,b3,c3,d3]) (aK (aG.fV (ar.cu true v) o.own) (aK (.same _) b8)) (fun h=>jW true v hL to_ h) (.bool _) ?_
  cases hu:su v.links to_
  · simp only[EZ,ag,Nat.reduceAdd,Nat.reduceBEq,Cd,sO]
    have e:fF v to_ m=v:=by rw[fF,hu];rfl
    rw[e]
    first|exact⟨rfl,rfl,gg.refl o.at fun c hc=>.inl hc⟩|exact⟨rfl,gg.refl o.at fun c hc=>.inl hc⟩|exact gg.refl o.at fun c hc=>.inl hc
  have nd2:(f4++fm).Nodup:=List.nodup_append.2 ⟨o.n4,nm,fun x hx y hy e=>(dm y hy).1 (aN.2 (.inr (.inr (.inr (e▸hx)))))⟩
  obtain⟨v',H1,f4',ea,o',nd',hf',hl',hm'⟩:=cY (bytes:=128) o.o4 nd2 (by omega) rfl (aG.i (k:=.i64) (n:=to_) om) (by simp only[List.length_map,aQ];omega)
  obtain⟨j1,j2,j3,j4⟩:=o'.cell
  have hb1:b7 H1 b=some (0,[.int .i64 v.id,wE,w2,wL,w4]):=by rw[bt (hf' b o.b4 blt)];exact hb
  obtain⟨H2,s2,hb2,l2,r2⟩:=qT hb1 (i:=4) (w:=v') (by simp) j3
  simp only[EZ,ag,Nat.reduceAdd,Nat.reduceBEq,Cd,sO,EA,aE,gZ,qH,qO,qh,cb,cz5a,cz5b,cz5c,ea,j1,j2,j3,s2]
  have e:fF v to_ m={ v with out:=v.out++[⟨to_,m⟩] }:=by rw[fF,hu];rfl
  rw[e]
  have o2:=o.Mn (G:=fm) (l':=v.out++[⟨to_,m⟩]) (f4':=f4') hb2 ((by rw[List.map_append];exact o':b6 H1 v' (.sl 13 ((v.out++[(⟨to_,m⟩:aJ)]).map aJ.cd)) f4').frame fun c hc=>r2 c (fun e=>by
    subst e
    rcases hm' c hc with g|g|g
    · exact o.b4 g
    · exact(dm c g).2 rfl
    · omega)) nd' hm' dm (by omega) (fun c h1 h2 h3 h4=>by rw[r2 c h3,hf' c h1 h4])
  have fin:gg H b (fun c=>c∈eL fE f2 fL f4∨c∈fm) H2 { v with out:=v.out++[⟨to_,m⟩] }:=o2.up (by omega) (fun c hc=>by
    rcases aN.1 hc with g|g|g|g
    · exact .inl (.inl (aN.2 (.inl g)))
    · exact .inl (.inl (aN.2 (.inr (.inl g))))
    · exact .inl (.inl (aN.2 (.inr (.inr (.inl g)))))
    · rcases hm' c g with q|q|q
      · exact .inl (.inl (aN.2 (.inr (.inr (.inr q)))))
      · exact .inl (.inr q)
      · exact .inr q) (fun c h1 h2 h3=>by rw[r2 c h2,hf' c (fun h=>h1 (.inl (aN.2 (.inr (.inr (.inr h)))))) h3])
  first|exact⟨rfl,rfl,fin⟩|exact⟨rfl,fin⟩|exact fin
def gm(v:ar)(e:aq):ar:=if 200≤v.entities.length then v else { v with entities:=v.entities++[e] }
def jL(v:ar):Int:=if 200≤v.entities.length then -1 else v.entities.length
set_option maxHeartbeats 1000000 in
theorem P7(v:ar)(x:aq)(H:AH){b:Nat}{f:List Nat}(a:kt H b v f){am:List AV}{fm:List Nat}(om:aG H am x.cd fm)(nm:fm.Nodup)(dm:∀c∈fm,c∉f∧c≠b):
    T Tryz.prog Γ Fn.SR [.gp b 0 0,.agg am] H fun r H'=>r=.int .i64 (jL v)∧gg H b (fun c=>c∈f∨c∈fm) H' (gm v x):=by
  obtain⟨wE,w2,wL,w4,fE,f2,fL,f4,rfl,o⟩:=a
  have hb:=o.hb
  have bf:=o.bf
  have blt:=o.blt
  have vlt:=o.lt
  have cb:∀(e:List AV) (L:List (List AV)) (off n:Nat),(St.mk e L H).cells (.gp b 0 off) n=sub [.int .i64 v.id,wE,w2,wL,w4] off n:=fun e L off n=>bp hb
  obtain⟨a1,a2,a3,a4⟩:=o.oE.cell
  obtain⟨b1,b2,b3,b4⟩:=o.o2.cell
  obtain⟨c1,c2,c3,c4⟩:=o.oL.cell
  obtain⟨d1,d2,d3,d4⟩:=o.o4.cell
  obtain⟨_,lE⟩:=cP o.oE
  rw[List.length_map]at lE
  have oo:=om
  simp only[aq.cd,fW,fN,gB,iH,iv]at oo
  obtain⟨_,_,_,_,rfl,_,⟨rfl,rfl⟩,⟨_,_,_,_,rfl,_,⟨rfl,rfl⟩,⟨az2,_,_,_,rfl,_,uz2,⟨_,_,_,_,rfl,_,⟨rfl,rfl⟩,⟨_,_,_,_,rfl,_,⟨rfl,rfl⟩,⟨_,_,_,_,rfl,_,⟨rfl,rfl⟩,⟨az6,_,_,_,rfl,_,uz6,⟨az7,_,_,_,rfl,_,uz7,⟨_,_,_,_,rfl,_,⟨rfl,rfl⟩,⟨_,_,_,_,rfl,_,⟨rfl,rfl⟩,⟨_,_,_,_,rfl,_,⟨rfl,rfl⟩,⟨_,_,_,_,rfl,_,⟨rfl,rfl⟩,⟨rfl,_⟩⟩⟩⟩⟩⟩⟩⟩⟩⟩⟩⟩⟩:=oo
  obtain⟨cz2a,cz2b,cz2c,cz2d⟩:=uz2.cell
  obtain⟨cz6a,cz6b,cz6c,cz6d⟩:=uz6.cell
  obtain⟨cz7a,cz7b,cz7c,cz7d⟩:=uz7.cell
  refine OD (au aC aD [] _ _ _ ?_)
  unfold ID
  simp only[EZ,ag,Nat.reduceAdd,Nat.reduceBEq,Bz,sN,aE,cb]
  by_cases hf:200≤v.entities.length
  · simp only[EZ,ag,Nat.reduceAdd,Nat.reduceBEq,Bz,sN,cb,lE,show decide ((200:Int)≤(v.entities.length:Int))=true from decide_eq_true (by omega)]
    have e:gm v x=v:=by rw[gm,if_pos hf]
    have e2:jL v = -1:=by rw[jL,if_pos hf]
    rw[e,e2]
    first|exact⟨rfl,rfl,gg.refl o.at fun c hc=>.inl hc⟩|exact⟨rfl,gg.refl o.at fun c hc=>.inl hc⟩|exact gg.refl o.at fun c hc=>.inl hc
  have nd2:(fE++fm).Nodup:=List.nodup_append.2 ⟨o.nE,nm,fun x hx y hy e=>(dm y hy).1 (aN.2 (.inl (e▸hx)))⟩
  obtain⟨v',H1,fE',ea,o',nd',hf',hl',hm'⟩:=cY (bytes:=144) o.oE nd2 (by omega) rfl om (by simp only[List.length_map,aQ];omega)
  obtain⟨j1,j2,j3,j4⟩:=o'.cell
  obtain⟨_,lE'⟩:=cP o'
  simp only[List.length_append,List.length_map,List.length_cons,List.length_nil,Nat.zero_add]at lE'
  have hb1:b7 H1 b=some (0,[.int .i64 v.id,wE,w2,wL,w4]):=by rw[bt (hf' b o.bE blt)];exact hb
  obtain⟨H2,s2,hb2,l2,r2⟩:=qT hb1 (i:=1) (w:=v') (by simp) j3
  have cb2:∀(e:List AV) (L:List (List AV)) (off n:Nat),(St.mk e L H2).cells (.gp b 0 off) n=sub [.int .i64 v.id,v',w2,wL,w4] off n:=fun e L off n=>bp hb2
  simp only[EZ,ag,Nat.reduceAdd,Nat.reduceBEq,Bz,sN,EA,aE,cb,lE,show decide ((200:Int)≤(v.entities.length:Int))=false from decide_eq_false (by omega),cz2a,cz2b,cz2c,cz6a,cz6b,cz6c,cz7a,cz7b,cz7c,ea,j1,j2,j3,s2,cb2,lE']
  have e:gm v x={ v with entities:=v.entities++[x] }:=by rw[gm,if_neg hf]
  have e2:jL v=IntKind.i64.wrap (((v.entities.length+1:Nat):Int)-1):=by rw[jL,if_neg hf,fo (by omega) (by omega)];omega
  rw[e,e2]
  have o2:=o.Gd (G:=fm) (es':=v.entities++[x]) (fE':=fE') hb2 ((by simpa using o':b6 H1 v' (.sl 12 ((v.entities++[x]).map aq.cd)) fE').frame fun c hc=>r2 c (fun e=>by
    subst e
    rcases hm' c hc with g|g|g
    · exact o.bE g
    · exact(dm c g).2 rfl
    · omega)) nd' hm' dm (by omega) (fun c h1 h2 h3 h4=>by rw[r2 c h3,hf' c h1 h4])
  have fin:gg H b (fun c=>c∈eL fE f2 fL f4∨c∈fm) H2 { v with entities:=v.entities++[x] }:=o2.up (by omega) (fun c hc=>by
    rcases aN.1 hc with g|g|g|g
    · rcases hm' c g with q|q|q
      · exact .inl (.inl (aN.2 (.inl q)))
      · exact .inl (.inr q)
      · exact .inr q
    · exact .inl (.inl (aN.2 (.inr (.inl g))))
    · exact .inl (.inl (aN.2 (.inr (.inr (.inl g)))))
    · exact .inl (.inl (aN.2 (.inr (.inr (.inr g)))))) (fun c h1 h2 h3=>by rw[r2 c h2,hf' c (fun h=>h1 (.inl (aN.2 (.inl h)))) h3])
  first|exact⟨rfl,rfl,fin⟩|exact⟨rfl,fin⟩|exact fin
end Go.Proofs.YtccjhmhkfnnmaaaGreat
