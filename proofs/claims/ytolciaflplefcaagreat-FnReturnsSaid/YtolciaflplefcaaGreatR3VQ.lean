import Derived.Test.YtolciaflplefcaaGreatR6G15
import Derived.Test.YtolciaflplefcaaGreatR6G14
import Derived.Test.YtolciaflplefcaaGreatAmG10
set_option linter.unusedVariables false
set_option linter.unusedSimpArgs false
open Nat renaming reduceAdd→Aaa,reduceBEq→Aab,le_refl→Aaj
open List renaming mem_singleton→Aac,getElem?_append_left→Aad,getElem?_eq_getElem→Aae,mem_append→Aaf,nodup_append→Aag,getD_eq_getElem?_getD→Aah,getElem_mem→Aai,length_map→Aak
namespace Go.Proofs.YtolciaflplefcaaGreat
open Go.AM
variable {Γ:bG}
theorem ku{H:AH}{row:List AV}{s:aK}{f:List Nat}(o:aM H row s.cd f):∃wa,row=[.int .i64 s.target,.str s.name,wa,.int .i64 s.result,.int .i64 s.tag.vat,.int .i64 s.tag.entity,.int .i64 s.tag.seq]∧b9 H wa (.sl 2 (s.args.map an.cd)) f:=by
 simp only[aK.cd,jv,jy,j6,oF,nF]at o;obtain⟨_,_,_,_,rfl,rfl,⟨rfl,rfl⟩,⟨_,_,_,_,rfl,rfl,⟨rfl,rfl⟩,⟨wa,_,fa,_,rfl,rfl,oa,⟨_,_,_,_,rfl,rfl,⟨rfl,rfl⟩,⟨_,_,_,_,rfl,rfl,⟨rfl,rfl⟩,⟨_,_,_,_,rfl,rfl,⟨rfl,rfl⟩,⟨_,_,_,_,rfl,rfl,⟨rfl,rfl⟩,⟨rfl,rfl⟩⟩⟩⟩⟩⟩⟩⟩:=o;exact⟨wa,rfl,by simpa using oa⟩
theorem tJ{H:AH}{s:aK}{wa:AV}{f:List Nat}(oa:b9 H wa (.sl 2 (s.args.map an.cd)) f):aM H [.int .i64 s.target,.str s.name,wa,.int .i64 s.result,.int .i64 s.tag.vat,.int .i64 s.tag.entity,.int .i64 s.tag.seq] s.cd f:=by
 have e':f=f++[]:=by simp
 rw[e'];exact .i (.s (.o oa (.i (.i (.i (.i .nil))))))
theorem G9(v:ar)(peer:Int)(x:an):(bq v peer x).1.aq.map (fun l=>(l.peer,l.up))=v.aq.map (fun l=>(l.peer,l.up)):=by
 unfold bq;split
 ·rfl
 ·split
  ·split
   ·rfl
   ·rw[List.map_set];by_cases hk:(iq (fun l:aF=>l.peer == peer) v.aq).toNat<v.aq.length
    ·rw[Aah,Aae hk,Option.getD_some];apply List.ext_getElem?;intro i;by_cases hi:(iq (fun l:aF=>l.peer == peer) v.aq).toNat=i
     ·subst hi;rw[List.getElem?_set_self (by simpa using hk)];simp only[List.getElem?_map,Aae hk,Option.map_some,Option.some.injEq];unfold jq;split<;>rfl
     ·rw[List.getElem?_set_ne hi]
    ·rw[List.set_eq_of_length_le (by simpa using hk)]
  ·rfl
theorem vJ(peer:Int):∀(l:List an) (v:ar),(aQ v peer l).1.aq.map (fun l=>(l.peer,l.up))=v.aq.map (fun l=>(l.peer,l.up))
 | [],v=>rfl
 | x::l,v=>by simp only[aQ];rw[vJ peer l,G9]
theorem TN{l l':List aF}(h:l'.map (fun l=>(l.peer,l.up))=l.map (fun l=>(l.peer,l.up)))(p:Int):rO l' p=rO l p:=by
 have e:∀l:List aF,rO l p=(l.map (fun l=>(l.peer,l.up))).any (fun x=>x.1 == p && x.2):=fun l=>by rw[List.any_map];rfl
 rw[e,e,h]
def Ft(Γ:bG)(n:Nat):Prop:=∀(v:ar) (s:aK) (H:AH) (b:Nat) (f:List Nat) (am:List AV) (fs:List Nat),mJ v<n→VI v→s.ok 100→wV v+2+s.args.length≤500000→jr H b v f→aM H am s.cd fs→fs.Nodup→(∀c∈fs,c∉f∧c≠b)→
 T Tryz.prog Γ Fn.Tv [.gp b 0 0,.agg am] H fun r H'=>r=.tup []∧e9 H b (fun c=>c∈f∨c∈fs) H' (aT n v s)
set_option maxHeartbeats 8000000 in
set_option maxRecDepth 100000 in
theorem Od{n:Nat}(hD:Ft Γ n)(v:ar)(s:aK)(peer pos ans:Int)(hmu:mJ v≤n)(hvi:VI v)(hs:s.ok 100)(hw:wV v+2+s.args.length≤500000)(H:AH){b:Nat}{f:List Nat}(a:jr H b v f){am:List AV}{fs:List Nat}(os:aM H am s.cd fs)(ns:fs.Nodup)(ds:∀c∈fs,c∉f∧c≠b):
    T Tryz.prog Γ Fn.Pp [.gp b 0 0,.agg am,.int .i64 peer,.int .i64 pos,.int .i64 ans] H fun r H'=>r=.bool (dT v s peer)∧e9 H b (fun c=>c∈f∨c∈fs) H' (dp (aT n) v s peer pos ans):=by
  obtain⟨wE,w2,wL,w4,fE,f2,fL,f4,rfl,o⟩:=a
  obtain⟨wa,rfl,oa⟩:=ku os
  have hE:v.entities.length≤1048576:=by have:=hvi.fH;omega
  have hL:v.aq.length≤1048576:=by have:=hvi.aq;omega
  have hb:=o.hb
  have blt:=o.blt
  have cb:=VO.Cp hb
  obtain⟨a1,a2,a3,a4⟩:=o.oE.cell
  obtain⟨b1,b2,b3,b4⟩:=o.o2.cell
  obtain⟨c1,c2,c3,c4⟩:=o.oL.cell
  obtain⟨d1,d2,d3,d4⟩:=o.o4.cell
  obtain⟨g1,g2,g3,g4⟩:=oa.cell
  obtain⟨_,lE⟩:=dc o.oE
  rw[Aak]at lE
  refine Vd (aC aG mixed [] _ _ _ ?_)
  rw[Tm]
  unfold Kx
  cases u1:rO v.aq peer
  · have no:dT v s peer=false:=by simp[dT,u1]
    have nf:dp (aT n) v s peer pos ans=v:=by rw[dp,no];rfl
    rw[no,nf]
    simp only[au,Aaa,Aab,kg,dP,dM,dN,dH,dw,bC,cb,a1,a2,a3,b1,b2,b3,c1,c2,c3,d1,d2,d3,g1,g2,g3,lE]
    refine al.fk (by simp only[EO,a3,b3,c3,d3]) (aI (aM.fk (ar.bO true v) o.own) (aI (.same _) aZ)) (fun h=>pg true v hL peer h) (.bool _) ?_
    rw[u1]
    simp only[au,Aaa,Aab,kg,dP,dM,dN,dH,dw,bC,cb,a1,a2,a3,b1,b2,b3,c1,c2,c3,d1,d2,d3,g1,g2,g3,lE]
    exact⟨rfl,e9.refl o.at fun c hc=>.inl hc⟩
  cases e1:bB s.result v.entities.length
  · have no:dT v s peer=false:=by simp[dT,e1]
    have nf:dp (aT n) v s peer pos ans=v:=by rw[dp,no];rfl
    rw[no,nf]
    simp only[au,Aaa,Aab,kg,dP,dM,dN,dH,dw,bC,cb,a1,a2,a3,b1,b2,b3,c1,c2,c3,d1,d2,d3,g1,g2,g3,lE,ag,ae]
    refine al.fk (by simp only[EO,a3,b3,c3,d3]) (aI (aM.fk (ar.bO true v) o.own) (aI (.same _) aZ)) (fun h=>pg true v hL peer h) (.bool _) ?_
    rw[u1]
    simp only[au,Aaa,Aab,kg,dP,dM,dN,dH,dw,bC,cb,a1,a2,a3,b1,b2,b3,c1,c2,c3,d1,d2,d3,g1,g2,g3,lE,ag,ae]
    refine al.val (by simp only[EO]) (gQ _ _ _ _) ?_
    rw[fG _ hE,e1]
    simp only[au,Aaa,Aab,kg,dP,dM,dN,dH,dw,bC,cb,a1,a2,a3,b1,b2,b3,c1,c2,c3,d1,d2,d3,g1,g2,g3,lE,ag,ae]
    exact⟨rfl,e9.refl o.at fun c hc=>.inl hc⟩
  obtain⟨k,hk,ek,ek2,eA⟩:=cL e1
  obtain⟨r,hr⟩:∃r,r=aD v s.result:=⟨_,rfl⟩
  rw[←hr]at eA
  obtain⟨bR,gR,nR,row,fR,iR,rR,lR,oR,nfR,sR,bmR,bnR,wrR⟩:=o.jY hk
  rw[←eA]at oR
  obtain⟨wS,wQ,wA,fS,fQ,fA,rfl,rfl,oS,oQ,oA⟩:=c5 oR
  obtain⟨x1,x2,x3,x4⟩:=oS.cell
  obtain⟨x5,x6,x7,x8⟩:=oQ.cell
  obtain⟨x9,xa,xb,xc⟩:=oA.cell
  by_cases t1:r.kind=2∧r.state=1
  rotate_left
  · have no:dT v s peer=false:=by
      rw[dT,←hr]
      by_cases q1:r.kind=2
      · rw[aW (fun h=>t1 ⟨q1,h⟩)];simp
      · rw[aW q1];simp
    have nf:dp (aT n) v s peer pos ans=v:=by rw[dp,no];rfl
    rw[no,nf]
    by_cases q1:r.kind=2
    · have q2:¬r.state=1:=fun h=>t1 ⟨q1,h⟩
      simp only[au,Aaa,Aab,kg,dP,dM,dN,dH,dw,bC,cb,a1,a2,a3,b1,b2,b3,c1,c2,c3,d1,d2,d3,g1,g2,g3,lE,ag,ae]
      refine al.fk (by simp only[EO,a3,b3,c3,d3]) (aI (aM.fk (ar.bO true v) o.own) (aI (.same _) aZ)) (fun h=>pg true v hL peer h) (.bool _) ?_
      rw[u1]
      simp only[au,Aaa,Aab,kg,dP,dM,dN,dH,dw,bC,cb,a1,a2,a3,b1,b2,b3,c1,c2,c3,d1,d2,d3,g1,g2,g3,lE,ag,ae]
      refine al.val (by simp only[EO]) (gQ _ _ _ _) ?_
      rw[fG _ hE,e1]
      simp only[au,Aaa,Aab,kg,dP,dM,dN,dH,dw,bC,cb,a1,a2,a3,b1,b2,b3,c1,c2,c3,d1,d2,d3,g1,g2,g3,lE,ag,ae,ek,iR,rR,x1,x2,x3,x5,x6,x7,x9,xa,xb,aR q1,aW q2]
      unfold Eu
      simp only[au,Aaa,Aab,kg,dP,dM,dN,dH,dw,bC,cb,a1,a2,a3,b1,b2,b3,c1,c2,c3,d1,d2,d3,g1,g2,g3,lE,ag,ae,ek,iR,rR,x1,x2,x3,x5,x6,x7,x9,xa,xb,aR q1,aW q2]
      refine⟨Mem.loc ⟨_,([]:List (List AV))++[_],_⟩ _ [_],?_⟩
      first|exact⟨rfl,e9.refl o.at fun c hc=>.inl hc⟩|exact e9.refl o.at fun c hc=>.inl hc
    · simp only[au,Aaa,Aab,kg,dP,dM,dN,dH,dw,bC,cb,a1,a2,a3,b1,b2,b3,c1,c2,c3,d1,d2,d3,g1,g2,g3,lE,ag,ae]
      refine al.fk (by simp only[EO,a3,b3,c3,d3]) (aI (aM.fk (ar.bO true v) o.own) (aI (.same _) aZ)) (fun h=>pg true v hL peer h) (.bool _) ?_
      rw[u1]
      simp only[au,Aaa,Aab,kg,dP,dM,dN,dH,dw,bC,cb,a1,a2,a3,b1,b2,b3,c1,c2,c3,d1,d2,d3,g1,g2,g3,lE,ag,ae]
      refine al.val (by simp only[EO]) (gQ _ _ _ _) ?_
      rw[fG _ hE,e1]
      simp only[au,Aaa,Aab,kg,dP,dM,dN,dH,dw,bC,cb,a1,a2,a3,b1,b2,b3,c1,c2,c3,d1,d2,d3,g1,g2,g3,lE,ag,ae,ek,iR,rR,x1,x2,x3,x5,x6,x7,x9,xa,xb,aW q1]
      unfold Eu
      simp only[au,Aaa,Aab,kg,dP,dM,dN,dH,dw,bC,cb,a1,a2,a3,b1,b2,b3,c1,c2,c3,d1,d2,d3,g1,g2,g3,lE,ag,ae,ek,iR,rR,x1,x2,x3,x5,x6,x7,x9,xa,xb,aW q1]
      refine⟨Mem.loc ⟨_,([]:List (List AV))++[_],_⟩ _ [_],?_⟩
      first|exact⟨rfl,e9.refl o.at fun c hc=>.inl hc⟩|exact e9.refl o.at fun c hc=>.inl hc
  obtain⟨q1,q2⟩:=t1
  simp only[au,Aaa,Aab,kg,dP,dM,dN,dH,dw,bC,cb,a1,a2,a3,b1,b2,b3,c1,c2,c3,d1,d2,d3,g1,g2,g3,lE,ag,ae]
  refine al.fk (by simp only[EO,a3,b3,c3,d3]) (aI (aM.fk (ar.bO true v) o.own) (aI (.same _) aZ)) (fun h=>pg true v hL peer h) (.bool _) ?_
  rw[u1]
  simp only[au,Aaa,Aab,kg,dP,dM,dN,dH,dw,bC,cb,a1,a2,a3,b1,b2,b3,c1,c2,c3,d1,d2,d3,g1,g2,g3,lE,ag,ae]
  refine al.val (by simp only[EO]) (gQ _ _ _ _) ?_
  rw[fG _ hE,e1]
  simp only[au,Aaa,Aab,kg,dP,dM,dN,dH,dw,bC,cb,a1,a2,a3,b1,b2,b3,c1,c2,c3,d1,d2,d3,g1,g2,g3,lE,ag,ae,ek,iR,rR,x1,x2,x3,x5,x6,x7,x9,xa,xb,aR q1,aR q2]
  unfold Eu
  simp only[au,Aaa,Aab,kg,dP,dM,dN,dH,dw,bC,cb,a1,a2,a3,b1,b2,b3,c1,c2,c3,d1,d2,d3,g1,g2,g3,lE,ag,ae,ek,iR,rR,x1,x2,x3,x5,x6,x7,x9,xa,xb,aR q1,aR q2]
  refine⟨Mem.loc ⟨_,([]:List (List AV))++[_],_⟩ _ [_],?_⟩
  have yes:dT v s peer=true:=by rw[dT,u1,e1,←hr,aR q1,aR q2];rfl
  have yf:dp (aT n) v s peer pos ans=r.queue.foldl (aT n) (fW v s peer pos ans):=by rw[dp,if_pos yes,←hr]
  obtain⟨w1s,w1w,w1i⟩:=uf v s peer
  refine al.ref (by simp only[EO,g3,g4]) (Z9 v hE hL hvi.Cu peer s.args (by omega) H o oa ns (fun c hc h=>(ds c hc).1 (aO.2 (.inr (.inr (.inl h)))))) ?_
  rintro ww H1 ⟨fL1,fw,o1,ow,nw,l1,m1,mw,r1⟩
  replace o1:VO H1 b (cm v s peer) wE w2 wL w4 fE f2 fL1 f4:=o1
  replace ow:b9 H1 ww _ fw:=ow
  replace l1:H.length≤H1.length:=l1
  replace mw:∀c∈fw,H.length≤c∧c∉fL1:=mw
  replace r1:∀c,c∉fL→c<H.length→H1[c]? = H[c]?:=r1
  replace m1:∀c∈fL1,c∈fL∨H.length≤c:=m1
  obtain⟨h1,h2,h3,h4⟩:=ow.cell
  have hb1:=o1.hb
  have cb1:∀(e:List AV) (L:List (List AV)) (off n:Nat),(St.mk e L H1).cells (.gp b 0 off) n=sub [.int .i64 v.id,wE,w2,wL,w4] off n:=fun e L off n=>by rw[b8 hb1,w1s.id]
  simp only[au,Aaa,Aab,kg,dP,dM,dN,dH,dw,bC,cb1,a1,a2,a3,b1,b2,b3,c1,c2,c3,d1,d2,d3,h1,h2,h3]
  have pu:=vJ peer s.args v
  have u2:rO (cm v s peer).aq peer=true:=by rw[cm,TN pu];exact u1
  have hL1:(cm v s peer).aq.length≤1048576:=by rw[cm,(nM peer s.args v).2];exact hL
  obtain⟨j,hj,ej,_⟩:=pM u2
  have ow1:=o1.own
  rw[w1s.id]at ow1
  refine al.fk (by simp only[EO,a3,b3,c3,d3]) (aI (aM.fk (ar.bO true (cm v s peer)) (by have:=o1.own;rw[w1s.id]at this;exact this)) (aI (.same _) aZ)) (fun h=>yF true (cm v s peer) hL1 peer h) (.int _ _) ?_
  rw[ej]
  have lj:sg (cm v s peer) peer=j:=by rw[sg,ej];rfl
  obtain⟨l,hl⟩:∃l,l=(cm v s peer).aq[j]:=⟨_,rfl⟩
  have hgl:(cm v s peer).aq.getD j default=l:=by rw[Aah,Aae hj,hl];rfl
  have olk:l.ok 1048576:=by rw[hl];exact((w1i hvi).Cu _ (Aai hj)).mono (by omega)
  obtain⟨bL,gL,nL,rowL,fl0,iL,rL,oLr,nLr,sLr,wrL⟩:=o1.vq hj
  rw[←hl]at oLr
  obtain⟨wX,wQ',wA',fX,fq,fa,rfl,_,oX,oQq,oAa⟩:=ck oLr
  obtain⟨y1,y2,y3,y4⟩:=oX.cell
  obtain⟨y5,y6,y7,y8⟩:=oQq.cell
  obtain⟨y9,ya,yb,yc⟩:=oAa.cell
  simp only[au,Aaa,Aab,kg,dP,dM,dN,dH,dw,bC,cb1,a1,a2,a3,b1,b2,b3,c1,c2,c3,d1,d2,d3,h1,h2,h3,iL,rL,y1,y2,y3,y5,y6,y7,y9,ya,yb,ek]
  unfold Mr
  obtain⟨R2,hR2⟩:∃R:St→Prop,R=fun zst=>∃H4 row' f',∃g:Nat→AV,zst=⟨(List.range 124).map g,([]:List (List AV))++[[.int .i64 s.target,.str s.name,wa,.int .i64 k,.int .i64 s.tag.vat,.int .i64 s.tag.entity,.int .i64 s.tag.seq]]++[[.int .i64 r.kind,.int .i64 r.script,wS,.int .i64 r.state,.int .i64 r.value.kind,.int .i64 r.value.n,wQ,wA,.int .i64 r.peer,.int .i64 r.pos,.int .i64 r.count,.int .i64 r.sent]]++[row'],H4⟩∧(g 0=.gp b 0 0∧g 2=.int .i64 peer∧g 3=.int .i64 pos∧g 4=.int .i64 ans∧g 6=(.lp ([]:List (List AV)).length 0)∧g 11=(.lp (([]:List (List AV)).length+1) 0)∧g 12=ww∧g 13=.int .i64 j∧g 14=(.lp (([]:List (List AV)).length+2) 0)∧g 15=.int .i64 (lO l k).2)∧aM H4 row' (lO l k).1.cd f'∧f'.Nodup∧(∀c∈f',H1.length≤c)∧cQ H1 H4:=⟨_,rfl⟩
  refine BN R2 ?_ ?_
  · simp only[au,Aaa,Aab,kg,dP,dM,dN,dH,dw,bC,cb1,a1,a2,a3,b1,b2,b3,c1,c2,c3,d1,d2,d3,h1,h2,h3,iL,rL,y1,y2,y3,y5,y6,y7,y9,ya,yb,ek,jt]
    repeat' (first
      | (guard_target =~ Mem _ _;first|exact Mem.loc ⟨_,([]:List (List AV))++[_]++[_],_⟩ _ [_]|exact eg.mem _ _ _)
      | (guard_target =~ jB _ _ _;first|exact gI rfl|exact jZ (L':=[_]) rfl)
      | (guard_target =~ al _ _ Fn.Vp _ _ _
         refine al.own (by simp only[EO,y3,y7,yb]) (aI (aM.fk (aF.bO true l) oLr) (aI (.same _) aZ)) (fun h=>OL true l olk (k:Int) h) ?_
         rintro _ H4 fr
         replace fr:aX H1 _ _ _:=fr
         obtain⟨row',f',rfl,o',n',b',eg⟩:=fr.a2 rfl
         obtain⟨wX2,wQ2,wA2,_,_,_,rfl,_,oX2,oQ2,oA2⟩:=ck o'
         obtain⟨z1,z2,z3,z4⟩:=oX2.cell
         obtain⟨z5,z6,z7,z8⟩:=oQ2.cell
         obtain⟨z9,za,zb,zc⟩:=oA2.cell
         simp only[au,Aaa,Aab,kg,dP,dM,dN,dH,dw,bC,cb1,a1,a2,a3,b1,b2,b3,c1,c2,c3,d1,d2,d3,h1,h2,h3,iL,rL,y1,y2,y3,y5,y6,y7,y9,ya,yb,ek,CD.mY,z1,z2,z3,z5,z6,z7,z9,za,zb,jt])
      | (rw[hR2];exact⟨_,_,_,qv _,rA rfl,⟨rfl,rfl,rfl,rfl,rfl,rfl,rfl,rfl,rfl,rfl⟩,o',n',b',eg⟩)
      | refine And.intro ?_ ?_)
  intro zst hzst
  rw[hR2]at hzst
  clear hR2
  obtain⟨H4,row',f',g,rfl,⟨eg0,eg2,eg3,eg4,eg6,eg11,eg12,eg13,eg14,eg15⟩,o',n',b',eg⟩:=hzst
  rw[show(List.range 124).map g=g 0::g 1::g 2::g 3::g 4::g 5::g 6::g 7::g 8::g 9::g 10::g 11::g 12::g 13::g 14::g 15::g 16::g 17::g 18::g 19::g 20::g 21::g 22::g 23::g 24::g 25::g 26::g 27::g 28::g 29::g 30::g 31::g 32::g 33::g 34::g 35::g 36::g 37::g 38::g 39::g 40::g 41::g 42::g 43::g 44::g 45::g 46::g 47::g 48::g 49::g 50::g 51::g 52::g 53::g 54::g 55::g 56::g 57::g 58::g 59::g 60::g 61::g 62::g 63::g 64::g 65::g 66::g 67::g 68::g 69::g 70::g 71::g 72::g 73::g 74::g 75::g 76::g 77::g 78::g 79::g 80::g 81::g 82::g 83::g 84::g 85::g 86::g 87::g 88::g 89::g 90::g 91::g 92::g 93::g 94::g 95::g 96::g 97::g 98::g 99::g 100::g 101::g 102::g 103::g 104::g 105::g 106::g 107::g 108::g 109::g 110::g 111::g 112::g 113::g 114::g 115::g 116::g 117::g 118::g 119::g 120::g 121::g 122::g 123::[] from rfl]
  simp only[eg0,eg2,eg3,eg4,eg6,eg11,eg12,eg13,eg14,eg15]
  obtain⟨H5,s5,l5,r5,u5⟩:=wrL H4 row' (lO l k).1 f' eg o' n' (fun c hc=>.inr (b' c hc))
  obtain⟨wX2,wQ2,wA2,_,_,_,rfl,_,oX2,oQ2,oA2⟩:=ck o'
  obtain⟨z1,z2,z3,z4⟩:=oX2.cell
  obtain⟨z5,z6,z7,z8⟩:=oQ2.cell
  obtain⟨z9,za,zb,zc⟩:=oA2.cell
  have ev5:({ cm v s peer with aq:=(cm v s peer).aq.set j (lO l k).1 }:ar)=oP (cm v s peer) peer s.result:=by
    rw[oP,lj,hgl,ek];rfl
  rw[ev5]at u5
  obtain⟨fL5,o5,l15,m5,r15⟩:=u5
  have eq5:sW (cm v s peer) peer s.result=(lO l k).2:=by rw[sW,lj,hgl,ek]
  have blt1:=o1.blt
  have cb4:∀(e:List AV) (L:List (List AV)) (off n:Nat),(St.mk e L H4).cells (.gp b 0 off) n=sub [.int .i64 v.id,wE,w2,wL,w4] off n:=fun e L off n=>by rw[b8 (by rw[bc (eg.fr b blt1)];exact hb1),w1s.id]
  have cb6:∀(e:List AV) (L:List (List AV)) (off n:Nat),(St.mk e L (H5++[some (0,[])])).cells (.gp b 0 off) n=sub [.int .i64 v.id,wE,w2,wL,w4] off n:=fun e L off n=>by
    have:=o5.hb
    rw[b8 (by rw[bc (Aad o5.blt)];exact this),(uo (cm v s peer) peer s.result).1.id,w1s.id]
  unfold Me
  simp only[au,Aaa,Aab,kg,dP,dM,dN,dH,dw,bN,cb4,a1,a2,a3,b1,b2,b3,c1,c2,c3,d1,d2,d3,h1,h2,h3,iL,z1,z2,z3,z5,z6,z7,z9,za,zb,s5,x1,x2,x3,x5,x6,x7,x9,xa,xb]
  unfold KJ
  obtain⟨H6,hH6⟩:∃H6,H6=H5++[some (0,([]:List AV))]:=⟨_,rfl⟩
  obtain⟨a1k,a1w,a1i⟩:=uo (cm v s peer) peer s.result
  have sm:=w1s.trans a1k
  have o6:VO H6 b (oP (cm v s peer) peer s.result) wE w2 wL w4 fE f2 fL5 f4:=by rw[hH6];exact o5.frame fun c hc=>Aad (by rcases hc with g|g;exact o5.lt c g;rw[g];exact o5.blt)
  have hk6:k<(oP (cm v s peer) peer s.result).entities.length:=by rw[sm.fH];exact hk
  obtain⟨bR6,gR6,nR6,row6,fR6,iR6,rR6,lR6,oR6,nfR6,sR6,bmR6,bnR6,wrR6⟩:=o6.jY hk6
  rw[iR]at iR6
  injection iR6 with iR6
  injection iR6 with j1 j2 j3
  subst j1 j2 j3
  have vlt:=o.lt
  have hbR:bR<H.length:=vlt bR (aO.2 (.inl bmR))
  have fr1:∀c,c<H.length→c∉fL→H6[c]? = H[c]?:=fun c hc hn=>by
    have h5:c∉fL1:=fun h=>by rcases m1 c h with g|g;exact hn g;omega
    rw[hH6,Aad (by have:=eg.len;omega),r15 c h5 (by omega),r1 c hn hc]
  have e6:row6=[.int .i64 r.kind,.int .i64 r.script,wS,.int .i64 r.state,.int .i64 r.value.kind,.int .i64 r.value.n,wQ,wA,.int .i64 r.peer,.int .i64 r.pos,.int .i64 r.count,.int .i64 r.sent]:=by
    have h1:=rR6 [] []
    have h2:=rR [] []
    rw[show(St.mk [] [] H6).cells (.gp bR gR nR) 12=(St.mk [] [] H).cells (.gp bR gR nR) 12 by simp only[St.cells];rw[bc (fr1 bR hbR (o.dEL bR bmR))]]at h1
    exact Option.some.inj (h1.symm.trans h2)
  have ent6:(oP (cm v s peer) peer s.result).entities[k]=r:=by
    have:(oP (cm v s peer) peer s.result).entities=v.entities:=sm.fH
    simp only[this];exact eA.symm
  rw[ent6]at oR6
  obtain⟨wS6,wQ6,wA6,fS6,fQ6,fA6,e7,rfl,oS6,oQ6,oA6⟩:=c5 oR6
  rw[e6]at e7
  simp only[List.cons.injEq,AV.int.injEq,true_and,and_true]at e7
  obtain⟨rfl,rfl,rfl⟩:=e7
  subst e6
  have lt6:=o6.lt
  have l6:H6.length=H5.length+1:=by rw[hH6];simp
  have oN:b9 H6 (.gs H5.length 0 0 0 0 7 true) (.sl 7 (([]:List aK).map aK.cd)) [H5.length]:=by rw[hH6];exact gn H5 7
  obtain⟨nS6,nQA6,dS6⟩:=Aag.1 nfR6
  obtain⟨nQ6,nA6,dQ6⟩:=Aag.1 nQA6
  have lo6:∀c,c∈fS6++(fQ6++fA6)→c<H.length:=fun c hc=>vlt c (aO.2 (.inl (sR6 c hc)))
  have l15':=eg.len
  obtain⟨_,H7,f7,s7,l7,r7,o7,m7⟩:=wrR6 H6 0 [.int .i64 r.kind,.int .i64 r.script,wS,.int .i64 3,.int .i64 r.value.kind,.int .i64 r.value.n,.gs H5.length 0 0 0 0 7 true,wA,.int .i64 peer,.int .i64 (lO l k).2,.int .i64 0,.int .i64 r.sent] (kT r peer (lO l k).2) (fS6++([H5.length]++fA6)) [H5.length] (Aaj _) (fun c hc=>by
      rw[Aac.1 hc];exact⟨fun h=>by have:=o5.lt _ h;omega,fun e=>by have:=o5.blt;omega⟩) (fun _ _ _ _=>rfl) (by simp)
    (by simp only[je,jg,x3,xb];rfl)
    (by
      have:=jo (e:=kT r peer (lO l k).2) oS6 oN oA6
      exact this)
    (Aag.2 ⟨nS6,Aag.2 ⟨by simp,nA6,fun x hx y hy e=>by
      have:=lo6 y (by simp[hy]);simp only[Aac]at hx;omega⟩,fun x hx y hy e=>by
      rcases Aaf.1 hy with g|g
      · have:=lo6 x (by simp[hx]);simp only[Aac]at g;omega
      · exact dS6 x hx y (List.mem_append_right _ g) e⟩)
    (fun c hc=>by
      simp only[Aaf,Aac]at hc
      rcases hc with g|g|g
      · exact .inl (by simp[g])
      · exact .inr (.inl (by simp[g]))
      · exact .inl (by simp[g]))
  rw[Nat.add_zero]at s7
  have ev7:({ oP (cm v s peer) peer s.result with entities:=(oP (cm v s peer) peer s.result).entities.set k (kT r peer (lO l k).2) }:ar)=hZ v s peer:=by
    rw[hZ,eq5,←hr,ek2];rfl
  rw[ev7]at o7
  rw[←hH6]
  rw[←hH6]at cb6
  simp only[au,Aaa,Aab,kg,dP,dM,dN,dH,dw,bN,cb6,a1,a2,a3,b1,b2,b3,c1,c2,c3,d1,d2,d3,h1,h2,h3,iR,x1,x2,x3,x5,x6,x7,x9,xa,xb,s7,g1,g2,g3]
  have avi:VI (hZ v s peer):=by rw[hZ];exact pw (a1i (w1i hvi)) _ _ ⟨(gZ hvi s.result).1,fun x hx=>by simp[kT]at hx⟩
  have aout:(hZ v s peer).out=v.out:=(um peer s.args v).2.2.1
  have hout:v.out.length≤wV v:=by unfold wV;omega
  have nbR:∀c,H.length≤c→c≠bR:=fun c h e=>by omega
  have fw7:∀c∈fw,H7[c]? = H1[c]?:=fun c hc=>by
    have hl:=ow.lt c hc
    rw[r7 c (nbR c (mw c hc).1),hH6,Aad (by omega),r15 c (mw c hc).2 hl]
  have ow7:b9 H7 ww (.sl 2 ((aQ v peer s.args).2.map aJ.cd)) fw:=ow.frame fw7
  have omsg:aM H7 [.int .i64 1,.int .i64 pos,.int .i64 ans,.int .i64 (lO l k).2,.str s.name,ww,.int .i64 0,.int .i64 0,.int .i64 0,.int .i64 s.tag.vat,.int .i64 s.tag.entity,.int .i64 s.tag.seq] (lN s pos ans (lO l k).2 (aQ v peer s.args).2).cd fw:=by
    have e':fw=fw++[]:=by simp
    rw[e']
    exact .i (.i (.i (.i (.s (.o ow7 (.i (.i (.i (.i (.i (.i .nil)))))))))))
  have fwd:∀c∈fw,c∉f7∧c≠b:=fun c hc=>by
    obtain⟨k1,k2⟩:=mw c hc
    have hl:=ow.lt c hc
    refine⟨fun h=>?_,fun e=>by omega⟩
    rcases m7 c h with⟨g,_⟩|g
    · rcases aO.1 g with q|q|q|q
      · have:=vlt c (aO.2 (.inl q));omega
      · have:=vlt c (aO.2 (.inr (.inl q)));omega
      · rcases m5 c q with p|p
        · exact k2 p
        · omega
      · have:=vlt c (aO.2 (.inr (.inr (.inr q))));omega
    · simp only[Aaf,Aac]at g
      rcases g with q|q|q
      · have:=lo6 c (by simp[q]);omega
      · omega
      · have:=lo6 c (by simp[q]);omega
  refine al.ref (by simp only[EO,h3,h4]) (Dp (hZ v s peer) (by have:=avi.aq;omega) (by rw[aout];omega) peer (lN s pos ans (lO l k).2 (aQ v peer s.args).2) H7 o7 omsg nw fwd) ?_
  rintro _ H8 ⟨rfl,f8,o8,l8,m8,r8⟩
  have ev8:e8 (hZ v s peer) peer (lN s pos ans (lO l k).2 (aQ v peer s.args).2)=fW v s peer pos ans:=by rw[fW,eq5]
  replace o8:jr H8 b _ f8:=o8
  rw[ev8]at o8
  replace l8:H7.length≤H8.length:=l8
  replace r8:∀c,¬(c∈f7∨c∈fw)→c≠b→c<H7.length→H8[c]? = H7[c]?:=r8
  have nQS:∀c∈fQ6,c∉f7∧c≠b∧c<H.length∧c∈fE:=fun c hc=>by
    have hl:=lo6 c (by simp[hc])
    refine⟨fun h=>?_,fun e=>o.bE (e▸sR6 c (by simp[hc])),hl,sR6 c (by simp[hc])⟩
    rcases m7 c h with⟨_,g⟩|g
    · exact g (by simp[hc])
    · simp only[Aaf,Aac]at g
      rcases g with q|q|q
      · exact dS6 c q c (by simp[hc]) rfl
      · omega
      · exact dQ6 c hc c q rfl
  have oq7:b9 H7 wQ (.sl 7 (r.queue.map aK.cd)) fQ6:=oQ6.frame fun c hc=>r7 c (fun e=>bnR6 (e▸(by simp[hc])))
  have lq:=(dc oq7).2
  rw[Aak]at lq
  obtain⟨ptr,rws,fpr,qb,hrows⟩:=oq7.rows nQ6
  obtain⟨k1,k2,k3,k4⟩:=AW (pos:=pos) (ans:=ans) yes
  rw[←hr]at k2
  have hq100:∀x∈r.queue,x.ok 100:=by rw[hr];exact(gZ hvi s.result).2
  obtain⟨F,hF⟩:∃F:Nat→Prop,F=fun c=>c∈dh fE f2 fL f4∨c∈fs:=⟨_,rfl⟩
  have FE:∀c∈fE,F c:=fun c hc=>by rw[hF];exact .inl (aO.2 (.inl hc))
  have l7':H6.length≤H7.length:=by omega
  have f7F:∀c∈f7,F c∨H.length≤c:=fun c hc=>by
    rcases m7 c hc with⟨g,_⟩|g
    · rcases aO.1 g with q|q|q|q
      · exact .inl (FE c q)
      · exact .inl (by rw[hF];exact .inl (aO.2 (.inr (.inl q))))
      · rcases m5 c q with p|p
        · exact(m1 c p).imp (fun z=>by rw[hF];exact .inl (aO.2 (.inr (.inr (.inl z))))) id
        · exact .inr (by omega)
      · exact .inl (by rw[hF];exact .inl (aO.2 (.inr (.inr (.inr q)))))
    · simp only[Aaf,Aac]at g
      rcases g with q|q|q
      · exact .inl (FE c (sR6 c (by simp[q])))
      · exact .inr (by omega)
      · exact .inl (FE c (sR6 c (by simp[q])))
  have fr7:∀c,¬F c→c≠b→c<H.length→H7[c]? = H[c]?:=fun c h1 h2 h3=>by
    rw[r7 c (fun e=>h1 (FE c (e▸bmR))),fr1 c h3 (fun h=>h1 (by rw[hF];exact .inl (aO.2 (.inr (.inr (.inl h))))))]
  simp only[au,Aaa,Aab,kg,dP,dM,dN,dH,dw]
  refine fD aG mixed [] (fun x:Nat×AH×List Nat=>x.1≤r.queue.length∧jr x.2.1 b ((r.queue.take x.1).foldl (aT n) (fW v s peer pos ans)) x.2.2∧H.length≤x.2.1.length∧(∀c∈x.2.2,F c∨H.length≤c)∧(∀c,¬F c→c≠b→c<H.length→x.2.1[c]? = H[c]?)∧(∀c∈fQ6,(c=qb∨∃j,x.1≤j∧j<r.queue.length∧c∈fpr j)→x.2.1[c]? = H7[c]?∧c∉x.2.2)) (fun x=>r.queue.length-x.1)
    (fun x=>Ev (.gp b 0 0) wQ (.int .i64 x.1) _ x.2.1) (0,H8,f8) ⟨by simp,o8,by simp only;omega,fun c hc=>by
      rcases m8 c hc with(g|g)|g
      · exact f7F c g
      · exact .inr (mw c g).1
      · exact .inr (by omega),fun c h1 h2 h3=>by
      rw[r8 c (fun h=>by
        rcases h with g|g
        · rcases f7F c g with q|q
          · exact h1 q
          · omega
        · have:=(mw c g).1;omega) h2 (by omega),fr7 c h1 h2 h3],fun c hc _=>by
      obtain⟨q1,q2,q3,q4⟩:=nQS c hc
      have q5:c∉fw:=fun h=>by have:=(mw c h).1;omega
      refine⟨r8 c (fun h=>h.elim q1 q5) q2 (by omega),fun h=>?_⟩
      rcases m8 c h with(g|g)|g
      · exact q1 g
      · exact q5 g
      · omega⟩ ⟨by simp[Ev,gW,gM],rfl,rfl⟩ ?_
  rintro⟨i,Hi,fi⟩ ⟨hi,oi,li,mi,ri,qi⟩
  simp only at hi oi li mi ri qi
  simp only[au,Aaa,Aab,kg,dP,dM,dN,dH,dw,Ev,lq]
  refine bz (fun hlt=>?_) (fun hge=>?_)
  rotate_left
  · have hge:i=r.queue.length:=by simp at hge;omega
    subst hge
    rw[List.take_length]at oi
    simp only[au,Aaa,Aab,kg,dP,dM,dN,dH,dw]
    rw[yes,yf]
    have fin:e9 H b (fun c=>c∈dh fE f2 fL f4∨c∈fs) Hi (r.queue.foldl (aT n) (fW v s peer pos ans)):=⟨fi,oi,li,by rw[hF]at mi;exact mi,by rw[hF]at ri;exact ri⟩
    first|exact⟨rfl,rfl,fin⟩|exact⟨rfl,fin⟩|exact fin
  have hlt:i<r.queue.length:=by simpa using hlt
  obtain⟨p1,p2,p3,p4,p5,p6,p7⟩:=hrows i (by simpa using hlt)
  rw[List.getElem_map]at p3
  obtain⟨wa',er,oa'⟩:=ku p3
  have cR:∀(e:List AV) (L:List (List AV)),(St.mk e L Hi).cells (ptr i) 7=some (rws i):=fun e L=>p2 Hi e L (qi qb p6 (.inl rfl)).1
  rw[er]at cR p3
  have pi:aM Hi _ _ (fpr i):=p3.frame fun c hc=>(qi c (p5 c hc).1 (.inr ⟨i,Aaj _,hlt,hc⟩)).1
  obtain⟨t1,t2,t3,t4⟩:=oa'.cell
  obtain⟨fk1,fk2,fk3,fk4⟩:=nj (gr n) (r.queue.take i) (fW v s peer pos ans)
  have wt:∀(q:List aK) (i:Nat) (h:i<q.length),sM (q.take i)+(2+q[i].args.length)≤sM q:=fun q=>by
    induction q with
    | nil=>intro i h;simp at h
    | cons a q ih=>
      intro i h
      cases i with
      | zero=>simp[sM]
      | succ i=>have:=ih i (by simpa using h);simp only[sM,List.take_succ_cons,List.map_cons,List.sum_cons,List.getElem_cons_succ]at *;omega
  have wti:=wt r.queue i hlt
  simp only[au,Aaa,Aab,kg,dP,dM,dN,dH,dw,p1,cR,lq]
  refine al.ref (by simp only[EO,t3,t4]) (hD _ r.queue[i] Hi b fi _ (fpr i) (by omega) (fk4 (k4 hvi hs) fun x hx=>hq100 x (List.mem_of_mem_take hx)) (hq100 _ (Aai hlt)) (by omega) oi pi p4 (fun c hc=>⟨(qi c (p5 c hc).1 (.inr ⟨i,Aaj _,hlt,hc⟩)).2,(nQS c (p5 c hc).1).2.1⟩)) ?_
  rintro _ H9 ⟨rfl,f9,o9,l9,m9,r9⟩
  replace o9:jr H9 b _ f9:=o9
  replace l9:Hi.length≤H9.length:=l9
  replace r9:∀c,¬(c∈fi∨c∈fpr i)→c≠b→c<Hi.length→H9[c]? = Hi[c]?:=r9
  simp only[au,Aaa,Aab,kg,dP,dM,dN,dH,dw]
  have ts:(r.queue.take (i+1)).foldl (aT n) (fW v s peer pos ans)=aT n ((r.queue.take i).foldl (aT n) (fW v s peer pos ans)) r.queue[i]:=by
    rw[List.take_succ_eq_append_getElem hlt,List.foldl_append];rfl
  refine⟨(i+1,H9,f9),⟨hlt,by simp only;rw[ts];exact o9,by simp only;omega,fun c hc=>?_,fun c h1 h2 h3=>?_,fun c hc hj=>?_⟩,by simp only;omega,⟨by rw[wN (by have:=(vV r.queue);omega)];simp[Ev,gW,gM],rfl,rfl⟩⟩
  · rcases m9 c hc with(g|g)|g
    · exact mi c g
    · exact .inl (FE c (nQS c (p5 c g).1).2.2.2)
    · exact .inr (by omega)
  · simp only
    rw[r9 c (fun h=>by
      rcases h with g|g
      · rcases mi c g with q|q
        · exact h1 q
        · omega
      · exact h1 (FE c (nQS c (p5 c g).1).2.2.2)) h2 (by omega),ri c h1 h2 h3]
  · simp only at hj ⊢
    have hj':c=qb∨∃j,i≤j∧j<r.queue.length∧c∈fpr j:=hj.imp id fun⟨j,a,b,c⟩=>⟨j,by omega,b,c⟩
    obtain⟨e1,e2⟩:=qi c hc hj'
    obtain⟨_,e3,e4,_⟩:=nQS c hc
    have e5:c∉fpr i:=fun h=>by
      rcases hj with g|⟨j,g1,g2,g3⟩
      · exact(p5 c h).2 g
      · exact p7 j (by simpa using g2) (by omega) c h g3
    refine⟨by rw[r9 c (fun h=>h.elim e2 e5) e3 (by omega),e1],fun h=>?_⟩
    rcases m9 c h with(g|g)|g
    · exact e2 g
    · exact e5 g
    · omega
end Go.Proofs.YtolciaflplefcaaGreat
