import Derived.Test.YtccjhmhkfnnmaaaGreatAmG9
import Derived.Test.YtccjhmhkfnnmaaaGreatAmG8
import Derived.Test.YtccjhmhkfnnmaaaGreatAmG6
set_option linter.unusedVariables false
set_option linter.unusedSimpArgs false
namespace Go.AM
theorem kl{H:AH}{cells:List AV}{v:ar}{f:List Nat}(o:aG H cells v.cd f):∃wE w2 wL w4 fE f2 fL f4,cells=[.int .i64 v.id,wE,w2,wL,w4]∧f=fE++(f2++(fL++f4))∧b6 H wE (.sl 12 (v.entities.map aq.cd)) fE∧b6 H w2 (.sl 7 (v.loop.map aM.cd)) f2∧b6 H wL (.sl 7 (v.links.map aB.cd)) fL∧b6 H w4 (.sl 13 (v.out.map aJ.cd)) f4:=by
  simp only[ar.cd,fW,fN,gB,iH,iv]at o
  obtain⟨_,_,_,_,rfl,rfl,⟨rfl,rfl⟩,⟨wE,_,fE,_,rfl,rfl,oE,⟨w2,_,f2,_,rfl,rfl,o2,⟨wL,_,fL,_,rfl,rfl,oL,⟨w4,_,f4,_,rfl,rfl,o4,⟨rfl,rfl⟩⟩⟩⟩⟩⟩:=o
  exact⟨wE,w2,wL,w4,fE,f2,fL,f4,rfl,by simp,oE,o2,oL,o4⟩
theorem OE{H:AH}{v:ar}{wE w2 wL w4:AV}{fE f2 fL f4:List Nat}(oE:b6 H wE (.sl 12 (v.entities.map aq.cd)) fE)(o2:b6 H w2 (.sl 7 (v.loop.map aM.cd)) f2)(oL:b6 H wL (.sl 7 (v.links.map aB.cd)) fL)(o4:b6 H w4 (.sl 13 (v.out.map aJ.cd)) f4):
    aG H [.int .i64 v.id,wE,w2,wL,w4] v.cd (fE++(f2++(fL++f4))):=by
  have e:f4=f4++[]:=by simp
  rw[e]
  exact .i (.o oE (.o o2 (.o oL (.o o4 .nil))))
def dj(f g:List Nat):Prop:=∀c∈f,c∉g
theorem dj.symm{f g:List Nat}(h:dj f g):dj g f:=fun c hc hd=>h c hd hc
structure VO (H:AH) (b:Nat) (v:ar) (wE w2 wL w4:AV) (fE f2 fL f4:List Nat):Prop where
  hb:b7 H b=some (0,[.int .i64 v.id,wE,w2,wL,w4])
  oE:b6 H wE (.sl 12 (v.entities.map aq.cd)) fE
  o2:b6 H w2 (.sl 7 (v.loop.map aM.cd)) f2
  oL:b6 H wL (.sl 7 (v.links.map aB.cd)) fL
  o4:b6 H w4 (.sl 13 (v.out.map aJ.cd)) f4
  nE:fE.Nodup
  n2:f2.Nodup
  nL:fL.Nodup
  n4:f4.Nodup
  dE2:dj fE f2
  dEL:dj fE fL
  dE4:dj fE f4
  d2L:dj f2 fL
  d24:dj f2 f4
  dL4:dj fL f4
  bE:b∉fE
  b2:b∉f2
  bL:b∉fL
  b4:b∉f4
def eL(fE f2 fL f4:List Nat):List Nat:=fE++(f2++(fL++f4))
theorem aN{fE f2 fL f4:List Nat}{c:Nat}:c∈eL fE f2 fL f4↔c∈fE∨c∈f2∨c∈fL∨c∈f4:=by simp[eL]
def kt(H:AH)(b:Nat)(v:ar)(f:List Nat):Prop:=∃wE w2 wL w4 fE f2 fL f4,f=eL fE f2 fL f4∧VO H b v wE w2 wL w4 fE f2 fL f4
section
variable {H:AH} {b:Nat} {v:ar} {wE w2 wL w4:AV} {fE f2 fL f4:List Nat}
theorem VO.nodup(o:VO H b v wE w2 wL w4 fE f2 fL f4):(eL fE f2 fL f4).Nodup:=by
  refine List.nodup_append.2 ⟨o.nE,List.nodup_append.2 ⟨o.n2,List.nodup_append.2 ⟨o.nL,o.n4,fun x hx y hy e=>o.dL4 x hx (e▸hy)⟩,fun x hx y hy e=>?_⟩,fun x hx y hy e=>?_⟩
  · subst e
    rcases List.mem_append.1 hy with g|g
    · exact o.d2L x hx g
    · exact o.d24 x hx g
  · subst e
    simp only[List.mem_append]at hy
    rcases hy with g|g|g
    · exact o.dE2 x hx g
    · exact o.dEL x hx g
    · exact o.dE4 x hx g
theorem VO.own(o:VO H b v wE w2 wL w4 fE f2 fL f4):aG H [.int .i64 v.id,wE,w2,wL,w4] v.cd (eL fE f2 fL f4):=OE o.oE o.o2 o.oL o.o4
theorem VO.lt(o:VO H b v wE w2 wL w4 fE f2 fL f4):∀c∈eL fE f2 fL f4,c<H.length:=o.own.lt
theorem VO.blt(o:VO H b v wE w2 wL w4 fE f2 fL f4):b<H.length:=g6 o.hb
theorem VO.bf(o:VO H b v wE w2 wL w4 fE f2 fL f4):b∉eL fE f2 fL f4:=fun h=>by
  rcases aN.1 h with g|g|g|g
  · exact o.bE g
  · exact o.b2 g
  · exact o.bL g
  · exact o.b4 g
theorem VO.mk'{f:List Nat}(hb:b7 H b=some (0,[.int .i64 v.id,wE,w2,wL,w4]))(oE:b6 H wE (.sl 12 (v.entities.map aq.cd)) fE)(o2:b6 H w2 (.sl 7 (v.loop.map aM.cd)) f2)(oL:b6 H wL (.sl 7 (v.links.map aB.cd)) fL)(o4:b6 H w4 (.sl 13 (v.out.map aJ.cd)) f4)
    (nd:(fE++(f2++(fL++f4))).Nodup) (hf:b∉fE++(f2++(fL++f4))):VO H b v wE w2 wL w4 fE f2 fL f4:=by
  obtain⟨nE,n1,q1⟩:=List.nodup_append.1 nd
  obtain⟨n2,n3,q2⟩:=List.nodup_append.1 n1
  obtain⟨nL,n4,q3⟩:=List.nodup_append.1 n3
  simp only[List.mem_append,not_or]at hf
  exact⟨hb,oE,o2,oL,o4,nE,n2,nL,n4,fun c h g=>q1 c h c (by simp[g]) rfl,fun c h g=>q1 c h c (by simp[g]) rfl,fun c h g=>q1 c h c (by simp[g]) rfl,fun c h g=>q2 c h c (by simp[g]) rfl,fun c h g=>q2 c h c (by simp[g]) rfl,fun c h g=>q3 c h c g rfl,hf.1,hf.2.1,hf.2.2.1,hf.2.2.2⟩
theorem kt.of{cells:List AV}{f:List Nat}(hb:b7 H b=some (0,cells))(o:aG H cells v.cd f)(nd:f.Nodup)(hf:b∉f):kt H b v f:=by
  obtain⟨wE,w2,wL,w4,fE,f2,fL,f4,rfl,rfl,oE,o2,oL,o4⟩:=kl o
  exact⟨wE,w2,wL,w4,fE,f2,fL,f4,rfl,VO.mk' (f:=[]) hb oE o2 oL o4 nd hf⟩
theorem kt.lt{f:List Nat}(a:kt H b v f):(∀c∈f,c<H.length)∧b<H.length∧b∉f∧f.Nodup:=by
  obtain⟨_,_,_,_,_,_,_,_,rfl,o⟩:=a
  exact⟨o.lt,o.blt,o.bf,o.nodup⟩
theorem kt.frame{f:List Nat}{H':AH}(a:kt H b v f)(h:∀c,c∈f∨c=b→H'[c]? = H[c]?):kt H' b v f:=by
  obtain⟨wE,w2,wL,w4,fE,f2,fL,f4,rfl,o⟩:=a
  refine⟨wE,w2,wL,w4,fE,f2,fL,f4,rfl,?_,o.oE.frame fun c hc=>h c (.inl (aN.2 (.inl hc))),o.o2.frame fun c hc=>h c (.inl (aN.2 (.inr (.inl hc)))),o.oL.frame fun c hc=>h c (.inl (aN.2 (.inr (.inr (.inl hc))))),o.o4.frame fun c hc=>h c (.inl (aN.2 (.inr (.inr (.inr hc))))),o.nE,o.n2,o.nL,o.n4,o.dE2,o.dEL,o.dE4,o.d2L,o.d24,o.dL4,o.bE,o.b2,o.bL,o.b4⟩
  rw[bt (h b (.inr rfl))];exact o.hb
end
def gg(H:AH)(b:Nat)(F:Nat→Prop)(H':AH)(v':ar):Prop:=
  ∃f',kt H' b v' f'∧H.length≤H'.length∧(∀c∈f',F c∨H.length≤c)∧∀c,¬F c→c≠b→c<H.length→H'[c]? = H[c]?
theorem gg.refl{H:AH}{b:Nat}{v:ar}{f:List Nat}{F:Nat→Prop}(a:kt H b v f)(hF:∀c∈f,F c):gg H b F H v:=⟨f,a,Nat.le_refl _,fun c hc=>.inl (hF c hc),fun _ _ _ _=>rfl⟩
theorem gg.trans{H H1 H2:AH}{b:Nat}{F:Nat→Prop}{f1:List Nat}{G:Nat→Prop}{v2:ar}(l1:H.length≤H1.length)(m1:∀c∈f1,F c∨H.length≤c)(r1:∀c,¬F c→c≠b→c<H.length→H1[c]? = H[c]?)
    (u:gg H1 b G H2 v2) (hG:∀c,G c→c∈f1∨F c∨H.length≤c):gg H b F H2 v2:=by
  obtain⟨f2,a2,l2,m2,r2⟩:=u
  have hG':∀c,G c→F c∨H.length≤c:=fun c hc=>by
    rcases hG c hc with g|g|g
    · exact m1 c g
    · exact .inl g
    · exact .inr g
  refine⟨f2,a2,by omega,fun c hc=>?_,fun c hF hb hl=>?_⟩
  · rcases m2 c hc with g|g
    · exact hG' c g
    · exact .inr (by omega)
  · rw[r2 c (fun g=>(hG' c g).elim hF (fun g=>by omega)) hb (by omega),r1 c hF hb hl]
theorem gg.mono{H H':AH}{b:Nat}{F G:Nat→Prop}{v:ar}(u:gg H b F H' v)(h:∀c,F c→G c):gg H b G H' v:=by
  obtain⟨f,a,l,m,r⟩:=u
  exact⟨f,a,l,fun c hc=>(m c hc).imp (h c) id,fun c hG=>r c (fun hF=>hG (h c hF))⟩
section
variable {H H':AH} {b:Nat} {v:ar} {wE w2 wL w4:AV} {fE f2 fL f4 G:List Nat}
theorem VO.Gd(o:VO H b v wE w2 wL w4 fE f2 fL f4){wE':AV}{es':List aq}{fE':List Nat}(hb:b7 H' b=some (0,[.int .i64 v.id,wE',w2,wL,w4]))(oE:b6 H' wE' (.sl 12 (es'.map aq.cd)) fE')(nE:fE'.Nodup)
    (mE:∀c∈fE',c∈fE∨c∈G∨H.length≤c) (dG:∀c∈G,c∉eL fE f2 fL f4∧c≠b) (hl:H.length≤H'.length) (fr:∀c,c∉fE→c∉G→c≠b→c<H.length→H'[c]? = H[c]?):
    VO H' b { v with entities:=es' } wE' w2 wL w4 fE' f2 fL f4:=by
  have lt:=o.lt
  have bf:=o.bf
  have key:∀c,c∈f2∨c∈fL∨c∈f4→H'[c]? = H[c]?∧c∉fE':=fun c hc=>by
    have hm:c∈eL fE f2 fL f4:=aN.2 (.inr hc)
    have hE:c∉fE:=fun g=>by
      rcases hc with q|q|q
      · exact o.dE2 c g q
      · exact o.dEL c g q
      · exact o.dE4 c g q
    have hG:c∉G:=fun g=>(dG c g).1 hm
    refine⟨fr c hE hG (fun e=>bf (e▸hm)) (lt c hm),fun h=>?_⟩
    rcases mE c h with g|g|g
    · exact hE g
    · exact hG g
    · have:=lt c hm;omega
  refine⟨hb,oE,o.o2.frame fun c hc=>(key c (.inl hc)).1,o.oL.frame fun c hc=>(key c (.inr (.inl hc))).1,o.o4.frame fun c hc=>(key c (.inr (.inr hc))).1,nE,o.n2,o.nL,o.n4,fun c h g=>(key c (.inl g)).2 h,fun c h g=>(key c (.inr (.inl g))).2 h,fun c h g=>(key c (.inr (.inr g))).2 h,o.d2L,o.d24,o.dL4,fun h=>?_,o.b2,o.bL,o.b4⟩
  rcases mE b h with g|g|g
  · exact o.bE g
  · exact(dG b g).2 rfl
  · have:=o.blt;omega
theorem VO.MI(o:VO H b v wE w2 wL w4 fE f2 fL f4){w2':AV}{l':List aM}{f2':List Nat}(hb:b7 H' b=some (0,[.int .i64 v.id,wE,w2',wL,w4]))(o2:b6 H' w2' (.sl 7 (l'.map aM.cd)) f2')(n2:f2'.Nodup)
    (m2:∀c∈f2',c∈f2∨c∈G∨H.length≤c) (dG:∀c∈G,c∉eL fE f2 fL f4∧c≠b) (hl:H.length≤H'.length) (fr:∀c,c∉f2→c∉G→c≠b→c<H.length→H'[c]? = H[c]?):
    VO H' b { v with loop:=l' } wE w2' wL w4 fE f2' fL f4:=by
  have lt:=o.lt
  have bf:=o.bf
  have key:∀c,c∈fE∨c∈fL∨c∈f4→H'[c]? = H[c]?∧c∉f2':=fun c hc=>by
    have hm:c∈eL fE f2 fL f4:=aN.2 (by rcases hc with q|q|q<;>simp[q])
    have hE:c∉f2:=fun g=>by
      rcases hc with q|q|q
      · exact o.dE2 c q g
      · exact o.d2L c g q
      · exact o.d24 c g q
    have hG:c∉G:=fun g=>(dG c g).1 hm
    refine⟨fr c hE hG (fun e=>bf (e▸hm)) (lt c hm),fun h=>?_⟩
    rcases m2 c h with g|g|g
    · exact hE g
    · exact hG g
    · have:=lt c hm;omega
  refine⟨hb,o.oE.frame fun c hc=>(key c (.inl hc)).1,o2,o.oL.frame fun c hc=>(key c (.inr (.inl hc))).1,o.o4.frame fun c hc=>(key c (.inr (.inr hc))).1,o.nE,n2,o.nL,o.n4,fun c h g=>(key c (.inl h)).2 g,o.dEL,o.dE4,fun c h g=>(key c (.inr (.inl g))).2 h,fun c h g=>(key c (.inr (.inr g))).2 h,o.dL4,o.bE,fun h=>?_,o.bL,o.b4⟩
  rcases m2 b h with g|g|g
  · exact o.b2 g
  · exact(dG b g).2 rfl
  · have:=o.blt;omega
theorem VO.Gj(o:VO H b v wE w2 wL w4 fE f2 fL f4){wL':AV}{l':List aB}{fL':List Nat}(hb:b7 H' b=some (0,[.int .i64 v.id,wE,w2,wL',w4]))(oL:b6 H' wL' (.sl 7 (l'.map aB.cd)) fL')(nL:fL'.Nodup)
    (mL:∀c∈fL',c∈fL∨c∈G∨H.length≤c) (dG:∀c∈G,c∉eL fE f2 fL f4∧c≠b) (hl:H.length≤H'.length) (fr:∀c,c∉fL→c∉G→c≠b→c<H.length→H'[c]? = H[c]?):
    VO H' b { v with links:=l' } wE w2 wL' w4 fE f2 fL' f4:=by
  have lt:=o.lt
  have bf:=o.bf
  have key:∀c,c∈fE∨c∈f2∨c∈f4→H'[c]? = H[c]?∧c∉fL':=fun c hc=>by
    have hm:c∈eL fE f2 fL f4:=aN.2 (by rcases hc with q|q|q<;>simp[q])
    have hE:c∉fL:=fun g=>by
      rcases hc with q|q|q
      · exact o.dEL c q g
      · exact o.d2L c q g
      · exact o.dL4 c g q
    have hG:c∉G:=fun g=>(dG c g).1 hm
    refine⟨fr c hE hG (fun e=>bf (e▸hm)) (lt c hm),fun h=>?_⟩
    rcases mL c h with g|g|g
    · exact hE g
    · exact hG g
    · have:=lt c hm;omega
  refine⟨hb,o.oE.frame fun c hc=>(key c (.inl hc)).1,o.o2.frame fun c hc=>(key c (.inr (.inl hc))).1,oL,o.o4.frame fun c hc=>(key c (.inr (.inr hc))).1,o.nE,o.n2,nL,o.n4,o.dE2,fun c h g=>(key c (.inl h)).2 g,o.dE4,fun c h g=>(key c (.inr (.inl h))).2 g,o.d24,fun c h g=>(key c (.inr (.inr g))).2 h,o.bE,o.b2,fun h=>?_,o.b4⟩
  rcases mL b h with g|g|g
  · exact o.bL g
  · exact(dG b g).2 rfl
  · have:=o.blt;omega
theorem VO.Mn(o:VO H b v wE w2 wL w4 fE f2 fL f4){w4':AV}{l':List aJ}{f4':List Nat}(hb:b7 H' b=some (0,[.int .i64 v.id,wE,w2,wL,w4']))(o4:b6 H' w4' (.sl 13 (l'.map aJ.cd)) f4')(n4:f4'.Nodup)
    (m4:∀c∈f4',c∈f4∨c∈G∨H.length≤c) (dG:∀c∈G,c∉eL fE f2 fL f4∧c≠b) (hl:H.length≤H'.length) (fr:∀c,c∉f4→c∉G→c≠b→c<H.length→H'[c]? = H[c]?):
    VO H' b { v with out:=l' } wE w2 wL w4' fE f2 fL f4':=by
  have lt:=o.lt
  have bf:=o.bf
  have key:∀c,c∈fE∨c∈f2∨c∈fL→H'[c]? = H[c]?∧c∉f4':=fun c hc=>by
    have hm:c∈eL fE f2 fL f4:=aN.2 (by rcases hc with q|q|q<;>simp[q])
    have hE:c∉f4:=fun g=>by
      rcases hc with q|q|q
      · exact o.dE4 c q g
      · exact o.d24 c q g
      · exact o.dL4 c q g
    have hG:c∉G:=fun g=>(dG c g).1 hm
    refine⟨fr c hE hG (fun e=>bf (e▸hm)) (lt c hm),fun h=>?_⟩
    rcases m4 c h with g|g|g
    · exact hE g
    · exact hG g
    · have:=lt c hm;omega
  refine⟨hb,o.oE.frame fun c hc=>(key c (.inl hc)).1,o.o2.frame fun c hc=>(key c (.inr (.inl hc))).1,o.oL.frame fun c hc=>(key c (.inr (.inr hc))).1,o4,o.nE,o.n2,o.nL,n4,o.dE2,o.dEL,fun c h g=>(key c (.inl h)).2 g,o.d2L,fun c h g=>(key c (.inr (.inl h))).2 g,fun c h g=>(key c (.inr (.inr h))).2 g,o.bE,o.b2,o.bL,fun h=>?_⟩
  rcases m4 b h with g|g|g
  · exact o.b4 g
  · exact(dG b g).2 rfl
  · have:=o.blt;omega
theorem VO.up{v':ar}{wE' w2' wL' w4':AV}{fE' f2' fL' f4':List Nat}(o':VO H' b v' wE' w2' wL' w4' fE' f2' fL' f4')(hl:H.length≤H'.length){F:Nat→Prop}(m:∀c∈eL fE' f2' fL' f4',F c∨H.length≤c)(r:∀c,¬F c→c≠b→c<H.length→H'[c]? = H[c]?):gg H b F H' v':=
  ⟨_,⟨_,_,_,_,_,_,_,_,rfl,o'⟩,hl,m,r⟩
theorem VO.at(o:VO H b v wE w2 wL w4 fE f2 fL f4):kt H b v (eL fE f2 fL f4):=⟨_,_,_,_,_,_,_,_,rfl,o⟩
theorem qT{cells:List AV}(hb:b7 H b=some (0,cells)){i:Nat}{w:AV}(hi:i+1≤cells.length)(hw:bj w=true):∃H',(∀(e:List AV) (L:List (List AV)),(St.mk e L H).store (.gp b 0 i) [w]=some ⟨e,L,H'⟩)∧b7 H' b=some (0,cD cells i [w])∧H'.length=H.length∧∀c,c≠b→H'[c]? = H[c]?:=by
  obtain⟨H',s,m,l,r⟩:=(kC.nil hb).store (i:=i) (vs:=[w]) (by simpa using hi) (by simp only[i5,iY,hw,Bool.and_self])
  refine⟨H',fun e L=>by simpa using s e L,by simpa using m.eq,l,r⟩
end
end Go.AM
namespace Go.AM
theorem b6.zx{H:AH}{w:AV}{sz:Nat}{xs:List (List CD)}{fp:List Nat}(o:b6 H w (.sl sz xs) fp)(nd:fp.Nodup){k:Nat}(hk:k<xs.length):
    ∃b g pre row post f,dV sz w (k:Int)=some (.gp b g pre.length)∧kC H b g pre row post∧row.length=sz∧aG H row xs[k] f∧f.Nodup∧(∀c∈f,c∈fp)∧b∈fp∧b∉f∧
      ∀(H':AH) (row':List AV) (d':List CD) (f':List Nat),aG H' row' d' f'→f'.Nodup→d'.length=sz→(∀c∈f',c∈f∨c∉fp)→kC H' b g pre row' post→(∀c∈fp,c∉f→c≠b→H'[c]? = H[c]?)→
        ∃fp',b6 H' w (.sl sz (xs.set k d')) fp'∧fp'.Nodup∧(∀c∈fp',(c∈fp∧c∉f)∨c∈f'):=by
  rcases o.ly with⟨rfl,e,rfl⟩|⟨b,g,cap,ex,az,tail,fp',rfl,rfl,hg,hsz,ht,hc,hown⟩
  · subst e;simp at hk
  obtain⟨nb,nd'⟩:=List.nodup_cons.1 nd
  have hfl:∀d:List CD,(xs.set k d).flatten=(xs.take k).flatten++(d++(xs.drop (k+1)).flatten):=fun d=>by
    rw[←List.flatten_cons,←List.flatten_append,List.set_eq_take_append_cons_drop,if_pos hk]
  have hf0:=hfl xs[k]
  rw[List.set_getElem_self]at hf0
  rw[hf0]at hown
  obtain⟨a1,a2,f1,f2,e1,e2,o1,o2⟩:=hown.split
  obtain⟨a3,a4,f3,f4,e3,e4,o3,o4⟩:=o2.split
  subst e1 e2 e3 e4
  have l1:a1.length=k*sz:=by
    rw[o1.len]
    have:∀(ys:List (List CD)),(∀l∈ys,l.length=sz)→ys.flatten.length=ys.length*sz:=fun ys=>by
      induction ys with
      | nil=>intro _;simp
      | cons y ys ih=>intro h;rw[List.flatten_cons,List.length_append,ih (fun l hl=>h l (by simp[hl])),h y (by simp),List.length_cons,Nat.add_mul];omega
    rw[this _ (fun l hl=>hsz l (List.mem_of_mem_take hl)),List.length_take,Nat.min_eq_left (by omega)]
  have l3:a3.length=sz:=by rw[o3.len];exact hsz _ (List.getElem_mem hk)
  obtain⟨n1,n2,n3⟩:=List.nodup_append.1 nd'
  obtain⟨n4,n5,n6⟩:=List.nodup_append.1 n2
  refine⟨b,g,a1,a3,a4++tail,f3,by have:=qR (b:=b) (g:=g) (off:=0) (len:=xs.length) (cap:=cap) (sz:=sz) (ex:=ex) hk;rwa[Nat.zero_add,←l1]at this,⟨by rw[hg];simp⟩,l3,o3,n4,fun c hc=>by simp[hc],by simp,fun hb=>nb (by simp[hb]),?_⟩
  intro H' row' d' f' o' nd2 hdl hf' hm fr
  have hbf':b∉f':=fun hb=>by
    rcases hf' b hb with q|q
    · exact nb (by simp[q])
    · exact q (by simp)
  have d1:∀c∈f',c∉f1:=fun c hc h1=>by
    rcases hf' c hc with q|q
    · exact n3 c h1 c (List.mem_append_left _ q) rfl
    · exact q (by simp[h1])
  have d4:∀c∈f',c∉f4:=fun c hc h1=>by
    rcases hf' c hc with q|q
    · exact n6 c q c h1 rfl
    · exact q (by simp[h1])
  have o1':=o1.frame (h':=H') fun c hc=>fr c (by simp[hc]) (fun h3=>n3 c hc c (List.mem_append_left _ h3) rfl) (fun e=>nb (by rw[←e];simp[hc]))
  have o4':=o4.frame (h':=H') fun c hc=>fr c (by simp[hc]) (fun h3=>n6 c h3 c hc rfl) (fun e=>nb (by rw[←e];simp[hc]))
  refine⟨b::(f1++(f'++f4)),?_,List.nodup_cons.2 ⟨?_,List.nodup_append.2 ⟨n1,List.nodup_append.2 ⟨nd2,n5,fun x hx y hy e=>d4 x hx (e▸hy)⟩,fun x hx y hy e=>?_⟩⟩,fun c hc=>?_⟩
  · have:=b6.sl_mk (h:=H') (b:=b) (g:=g) (cap:=cap) (sz:=sz) (ex:=ex) («as»:=a1++(row'++a4)) (tail:=tail) (xs:=xs.set k d') (fp:=f1++(f'++f4))
      (by rw[hm.eq];simp) (fun y hy=>by
        rcases List.mem_or_eq_of_mem_set hy with g|g
        · exact hsz y g
        · rw[g,hdl]) ht (by simpa using hc) (by rw[hfl];exact o1'.append (o'.append o4'))
    simpa using this
  · simp only[List.mem_append,not_or]
    exact⟨fun h=>nb (by simp[h]),hbf',fun h=>nb (by simp[h])⟩
  · subst e
    rcases List.mem_append.1 hy with q|q
    · exact d1 x q hx
    · exact n3 x hx x (List.mem_append_right _ q) rfl
  · simp only[List.mem_cons,List.mem_append]at hc ⊢
    rcases hc with q|q|q|q
    · exact .inl ⟨.inl q,fun h=>nb (by rw[←q];simp[h])⟩
    · exact .inl ⟨.inr (.inl q),fun h=>n3 c q c (List.mem_append_left _ h) rfl⟩
    · exact .inr q
    · exact .inl ⟨.inr (.inr (.inr q)),fun h=>n6 c h c q rfl⟩
theorem VO.gG{H:AH}{b:Nat}{v:ar}{wE w2 wL w4:AV}{fE f2 fL f4:List Nat}(o:VO H b v wE w2 wL w4 fE f2 fL f4){k:Nat}(hk:k<v.entities.length):∃bL gL n row f0,dV 12 wE (k:Int)=some (.gp bL gL n)∧(∀(e:List AV) (L:List (List AV)),(St.mk e L H).cells (.gp bL gL n) 12=some row)∧
    row.length=12∧aG H row v.entities[k].cd f0∧f0.Nodup∧(∀c∈f0,c∈fE)∧bL∈fE∧bL∉f0∧
    ∀(H4:AH) (i:Nat) (vs:List AV) (l':aq) (f' G:List Nat),H.length≤H4.length→(∀c∈G,c∉eL fE f2 fL f4∧c≠b)→(∀c,c<H.length→c∉f0→c∉G→H4[c]? = H[c]?)→i+vs.length≤12→vs.all bj=true→aG H4 (cD row i vs) l'.cd f'→f'.Nodup→(∀c∈f',c∈f0∨c∈G∨H.length≤c)→
      (∀(e:List AV) (L:List (List AV)) (off m:Nat),(St.mk e L H4).cells (.gp bL gL (n+off)) m=sub row off m∨12<off+m)∧
      ∃H5 f5,(∀(e:List AV) (L:List (List AV)),(St.mk e L H4).store (.gp bL gL (n+i)) vs=some ⟨e,L,H5⟩)∧H5.length=H4.length∧(∀c,c≠bL→H5[c]? = H4[c]?)∧
        kt H5 b { v with entities:=v.entities.set k l' } f5∧(∀c∈f5,(c∈eL fE f2 fL f4∧c∉f0)∨c∈f'):=by
  have vlt:=o.lt
  have bf:=o.bf
  have blt:=o.blt
  have hb:=o.hb
  have hkm:k<(v.entities.map aq.cd).length:=by simpa using hk
  obtain⟨bL,gL,pre,rowL,post,fL0,iL,mL,lL,oLr,nLr,sLr,bmL,bnL,close⟩:=o.oE.zx o.nE hkm
  rw[List.getElem_map]at oLr
  have hfE:∀c∈fE,c<H.length:=fun c hc=>vlt c (aN.2 (.inl hc))
  have hbq:=hfE bL bmL
  refine⟨bL,gL,pre.length,rowL,fL0,iL,fun e L=>by rw[mL.qJ e L 12 (by omega)];exact k5 lL,lL,oLr,nLr,sLr,bmL,bnL,fun H4 i vs l' f' G hl dG fr hi hv o' n' b'=>?_⟩
  have hbG:bL∉G:=fun h=>(dG bL h).1 (aN.2 (.inl bmL))
  have m4:kC H4 bL gL pre _ post:=mL.frame (fr bL hbq bnL hbG)
  obtain⟨H5,s5,m5,l5,r5⟩:=m4.store (i:=i) (vs:=vs) (by omega) hv
  refine⟨fun e L off m=>?_,?_⟩
  · by_cases ho:off+m≤12
    · exact .inl (m4.cells e L off m (by omega))
    · exact .inr (by omega)
  have nb:∀c∈f',c≠bL:=fun c hc e=>by
    rcases b' c hc with g|g|g
    · exact bnL (e▸g)
    · exact hbG (e▸g)
    · omega
  have o5:=o'.frame (h':=H5) fun c hc=>r5 c (nb c hc)
  obtain⟨fL',oL5,nL5,mL5⟩:=close H5 _ l'.cd f' o5 n' rfl (fun c hc=>by
    rcases b' c hc with g|g|g
    · exact .inl g
    · exact .inr (fun h=>(dG c g).1 (aN.2 (.inl h)))
    · exact .inr (fun h=>by have:=hfE c h;omega)) m5 (fun c hc hcf hcb=>by rw[r5 c hcb];exact fr c (hfE c hc) hcf (fun h=>(dG c h).1 (aN.2 (.inl hc))))
  have hb5:b7 H5 b=some (0,[.int .i64 v.id,wE,w2,wL,w4]):=by
    rw[bt (r5 b (fun e=>bf (aN.2 (.inl (e▸bmL))))),bt (fr b blt (fun h=>bf (aN.2 (.inl (sLr b h)))) (fun h=>(dG b h).2 rfl))];exact hb
  rw[←List.map_set]at oL5
  have u:=o.Gd (G:=G) hb5 oL5 nL5 (fun c hc=>by
    rcases mL5 c hc with g|g
    · exact .inl g.1
    · rcases b' c g with q|q|q
      · exact .inl (sLr c q)
      · exact .inr (.inl q)
      · exact .inr (.inr q)) dG (by omega)
    (fun c h1 h2 h3 h4=>by rw[r5 c (fun e=>h1 (e▸bmL)),fr c h4 (fun h=>h1 (sLr c h)) h2])
  refine⟨H5,_,s5,l5,r5,u.at,fun c hc=>?_⟩
  have out:∀c,c∈fL0→c∉f2∧c∉fL∧c∉f4:=fun c h=>⟨o.dE2 c (sLr c h),o.dEL c (sLr c h),o.dE4 c (sLr c h)⟩
  rcases aN.1 hc with g|g|g|g
  · rcases mL5 c g with q|q
    · exact .inl ⟨aN.2 (.inl q.1),q.2⟩
    · exact .inr q
  · exact .inl ⟨aN.2 (.inr (.inl g)),fun h=>(out c h).1 g⟩
  · exact .inl ⟨aN.2 (.inr (.inr (.inl g))),fun h=>(out c h).2.1 g⟩
  · exact .inl ⟨aN.2 (.inr (.inr (.inr g))),fun h=>(out c h).2.2 g⟩
theorem VO.frame{H H':AH}{b:Nat}{v:ar}{wE w2 wL w4:AV}{fE f2 fL f4:List Nat}(o:VO H b v wE w2 wL w4 fE f2 fL f4)(h:∀c,c∈eL fE f2 fL f4∨c=b→H'[c]? = H[c]?):VO H' b v wE w2 wL w4 fE f2 fL f4:=by
  refine⟨?_,o.oE.frame fun c hc=>h c (.inl (aN.2 (.inl hc))),o.o2.frame fun c hc=>h c (.inl (aN.2 (.inr (.inl hc)))),o.oL.frame fun c hc=>h c (.inl (aN.2 (.inr (.inr (.inl hc))))),o.o4.frame fun c hc=>h c (.inl (aN.2 (.inr (.inr (.inr hc))))),o.nE,o.n2,o.nL,o.n4,o.dE2,o.dEL,o.dE4,o.d2L,o.d24,o.dL4,o.bE,o.b2,o.bL,o.b4⟩
  rw[bt (h b (.inr rfl))];exact o.hb
def ue(H:AH)(b:Nat)(wE w2 wL w4:AV)(fE f2 fL f4:List Nat)(H':AH)(v':ar):Prop:=
  ∃fL',VO H' b v' wE w2 wL w4 fE f2 fL' f4∧H.length≤H'.length∧(∀c∈fL',c∈fL∨H.length≤c)∧∀c,c∉fL→c<H.length→H'[c]? = H[c]?
theorem ue.refl{H:AH}{b:Nat}{v:ar}{wE w2 wL w4:AV}{fE f2 fL f4:List Nat}(o:VO H b v wE w2 wL w4 fE f2 fL f4):ue H b wE w2 wL w4 fE f2 fL f4 H v:=⟨fL,o,Nat.le_refl _,fun c h=>.inl h,fun _ _ _=>rfl⟩
theorem VO.pw{H:AH}{b:Nat}{v:ar}{wE w2 wL w4:AV}{fE f2 fL f4:List Nat}(o:VO H b v wE w2 wL w4 fE f2 fL f4){k:Nat}(hk:k<v.links.length):∃bL gL n row f0,dV 7 wL (k:Int)=some (.gp bL gL n)∧(∀(e:List AV) (L:List (List AV)),(St.mk e L H).cells (.gp bL gL n) 7=some row)∧
    aG H row v.links[k].cd f0∧f0.Nodup∧(∀c∈f0,c∈fL)∧∀(H4:AH) (row':List AV) (l':aB) (f':List Nat),cn H H4→aG H4 row' l'.cd f'→f'.Nodup→(∀c∈f',c∈f0∨H.length≤c)→
      ∃H5,(∀(e:List AV) (L:List (List AV)),(St.mk e L H4).store (.gp bL gL n) row'=some ⟨e,L,H5⟩)∧H5.length=H4.length∧(∀c,c∉fL→H5[c]? = H4[c]?)∧ue H b wE w2 wL w4 fE f2 fL f4 H5 { v with links:=v.links.set k l' }:=by
  have vlt:=o.lt
  have bf:=o.bf
  have blt:=o.blt
  have hb:=o.hb
  have hkm:k<(v.links.map aB.cd).length:=by simpa using hk
  obtain⟨bL,gL,pre,rowL,post,fL0,iL,mL,lL,oLr,nLr,sLr,bmL,bnL,close⟩:=o.oL.j9 o.nL hkm
  rw[List.getElem_map]at oLr
  refine⟨bL,gL,pre.length,rowL,fL0,iL,fun e L=>by rw[mL.qJ e L 7 (by omega)];exact k5 lL,oLr,nLr,sLr,fun H4 row' l' f' eg o' n' b'=>?_⟩
  have hfL:∀c∈fL,c<H.length:=fun c hc=>vlt c (aN.2 (.inr (.inr (.inl hc))))
  have hbq:=hfL bL bmL
  have rl:row'.length=7:=by rw[o'.len];rfl
  have m4:kC H4 bL gL pre _ post:=mL.frame (eg.fr bL hbq)
  obtain⟨H5,s5,m5,l5,r5⟩:=m4.store (i:=0) (vs:=row') (by rw[rl,lL];exact Nat.le_refl 7) o'.bj
  rw[Nat.add_zero]at s5
  have ov:cD rowL 0 row'=row':=by simp[cD,rl,lL]
  rw[ov]at m5
  have lx:=eg.len
  have nb:∀c∈f',c≠bL:=fun c hc e=>by
    rcases b' c hc with g|g
    · exact bnL (e▸g)
    · omega
  have o5:=o'.frame (h':=H5) fun c hc=>r5 c (nb c hc)
  obtain⟨fL',oL5,nL5,mL5⟩:=close H5 _ l'.cd f' o5 n' rfl (fun c hc=>(b' c hc).imp id fun g hm=>by have:=hfL c hm;omega) m5 (fun c hc hcf hcb=>by rw[r5 c hcb];exact eg.fr c (hfL c hc))
  have hb5:b7 H5 b=some (0,[.int .i64 v.id,wE,w2,wL,w4]):=by
    rw[bt (r5 b (fun e=>bf (aN.2 (.inr (.inr (.inl (e▸bmL))))))),bt (eg.fr b blt)];exact hb
  rw[←List.map_set]at oL5
  have mf:∀c∈fL',c∈fL∨H.length≤c:=fun c hc=>by
    rcases mL5 c hc with g|g
    · exact .inl g
    · exact(b' c g).imp (sLr c) id
  have u:=o.Gj (G:=[]) hb5 oL5 nL5 (fun c hc=>(mf c hc).imp id .inr) (fun c hc=>by simp at hc) (by omega)
    (fun c h1 h2 h3 h4=>by rw[r5 c (fun e=>h1 (e▸bmL)),eg.fr c h4])
  exact⟨H5,s5,l5,fun c hc=>r5 c (fun e=>hc (e▸bmL)),fL',u,by omega,mf,fun c h1 h3=>by rw[r5 c (fun e=>h1 (e▸bmL)),eg.fr c h3]⟩
theorem aG.rows{H:AH}{sz:Nat}:∀{xs:List (List CD)} {az:List AV} {fp:List Nat},aG H az xs.flatten fp→(∀l∈xs,l.length=sz)→fp.Nodup→
    ∃fpr:Nat→List Nat,∀(j:Nat) (hj:j<xs.length),aG H ((az.drop (j*sz)).take sz) xs[j] (fpr j)∧(fpr j).Nodup∧(∀c∈fpr j,c∈fp)∧∀j',j'<xs.length→j'≠j→∀c∈fpr j,c∉fpr j'
  | [],_,_,_,_,_=>⟨fun _=>[],fun j hj=>by simp at hj⟩
  | x::xs,az,fp,o,hs,nd=>by
    rw[List.flatten_cons]at o
    obtain⟨a1,a2,f1,f2,rfl,rfl,o1,o2⟩:=o.split
    obtain⟨n1,n2,n3⟩:=List.nodup_append.1 nd
    obtain⟨g,hg⟩:=aG.rows o2 (fun l hl=>hs l (by simp[hl])) n2
    have la:a1.length=sz:=by rw[o1.len];exact hs x (by simp)
    refine⟨fun j=>match j with|0=>f1|j+1=>g j,fun j hj=>?_⟩
    cases j with
    | zero=>
      refine⟨by simpa[←la]using o1,n1,fun c hc=>by simp[show c∈f1 from hc],fun j' h1 h2 c hc=>?_⟩
      cases j' with
      | zero=>omega
      | succ j'=>exact fun h=>n3 c hc c ((hg j' (by simpa using h1)).2.2.1 c h) rfl
    | succ j=>
      obtain⟨k1,k2,k3,k4⟩:=hg j (by simpa using hj)
      refine⟨?_,k2,fun c hc=>by simp[k3 c hc],fun j' h1 h2 c hc=>?_⟩
      · have e:(j+1)*sz=a1.length+j*sz:=by rw[la,Nat.add_mul];omega
        rw[e,List.drop_append,List.drop_of_length_le (by omega),List.nil_append,Nat.add_sub_cancel_left]
        simpa using k1
      · cases j' with
        | zero=>exact fun h=>n3 c h c (k3 c hc) rfl
        | succ j'=>exact k4 j' (by simpa using h1) (by omega) c hc
theorem b6.rows{H:AH}{w:AV}{sz:Nat}{xs:List (List CD)}{fp:List Nat}(o:b6 H w (.sl sz xs) fp)(nd:fp.Nodup):
    ∃(ptr:Nat→AV) (row:Nat→List AV) (fpr:Nat→List Nat) (qb:Nat),∀(j:Nat) (hj:j<xs.length),dV sz w (j:Int)=some (ptr j)∧(∀(H':AH) (e:List AV) (L:List (List AV)),H'[qb]? = H[qb]?→(St.mk e L H').cells (ptr j) sz=some (row j))∧
      aG H (row j) xs[j] (fpr j)∧(fpr j).Nodup∧(∀c∈fpr j,c∈fp∧c≠qb)∧qb∈fp∧∀j',j'<xs.length→j'≠j→∀c∈fpr j,c∉fpr j':=by
  rcases o.ly with⟨rfl,e,rfl⟩|⟨b,g,cap,ex,az,tail,fp',rfl,rfl,hg,hsz,ht,hc,hown⟩
  · subst e
    exact⟨fun _=>.any,fun _=>[],fun _=>[],0,fun j hj=>by simp at hj⟩
  obtain⟨nb,nd'⟩:=List.nodup_cons.1 nd
  obtain⟨fpr,hf⟩:=hown.rows hsz nd'
  have lz:az.length=xs.length*sz:=by
    rw[hown.len]
    have:∀(ys:List (List CD)),(∀l∈ys,l.length=sz)→ys.flatten.length=ys.length*sz:=fun ys=>by
      induction ys with
      | nil=>intro _;simp
      | cons y ys ih=>intro h;rw[List.flatten_cons,List.length_append,ih (fun l hl=>h l (by simp[hl])),h y (by simp),List.length_cons,Nat.add_mul];omega
    exact this _ hsz
  refine⟨fun j=>.gp b g (j*sz),fun j=>(az.drop (j*sz)).take sz,fpr,b,fun j hj=>?_⟩
  obtain⟨k1,k2,k3,k4⟩:=hf j hj
  refine⟨by have:=qR (b:=b) (g:=g) (off:=0) (len:=xs.length) (cap:=cap) (sz:=sz) (ex:=ex) hj;rwa[Nat.zero_add]at this,fun H' e L hb=>?_,k1,k2,fun c hc=>⟨by simp[k3 c hc],fun e=>nb (e▸k3 c hc)⟩,by simp,k4⟩
  have hg':b7 H' b=some (g,az++tail):=by rw[bt hb];exact hg
  have hle:j*sz+sz≤az.length:=by rw[lz];calc j*sz+sz=(j+1)*sz:=by rw[Nat.add_mul];omega
    _≤xs.length*sz:=Nat.mul_le_mul_right _ hj
  rw[bp hg',sub,if_pos (by rw[List.length_append];omega),List.drop_append_of_le_length (by omega),List.take_append_of_le_length (by rw[List.length_drop];omega)]
end Go.AM
namespace Go.AM
def CP(os:List O)(af:List (List Nat)):Nat→List Bool→D→Bool
  | _,done,.done=>(dt os af done).isEmpty
  | n+1,done,.q i d=>(dt os af done).contains i && ((nI os i && tF os af done i) || (dt os af done == [i] && oP os af done i)) && CP os af n (done.set i true) d
  | n+1,done,.st i rs d=>dt os af done == [i] && (yV os af done i == some rs) && CP os af n (done.set i true) d
  | n+1,done,.all ds=>!(dt os af done).isEmpty && (dt os af done == ds.map fun x=>x.1) && ds.all fun x=>CP os af n (done.set x.1 true) x.2
  | n+1,done,.mix ds=>!(dt os af done).isEmpty && (dt os af done == ds.map fun x=>x.1) && ds.all fun x=>
      (match x.2.1 with|none=>true|some rs=>(oP os af done x.1 && rs == []) || (pB os af done x.1 == some rs)) && CP os af n (done.set x.1 true) x.2.2
  | 0,_,_=>false
section
variable {P:Program} {Θ:lF} {Γ:bY}
theorem Cj{gl:Gl}{os:List O}{af:List (List Nat)}{K:St→Prop}:∀(fuel:Nat) (done:List Bool) (d:D) (s:St),ka af done→CP os af fuel done d=true→bB P Γ gl os K fuel d s→pb P Γ gl os af K fuel done s:=by
  intro fuel
  induction fuel with
  | zero=>
    intro done d s hc hs h
    cases d<;>simp only[CP]at hs<;>first|cases hs|skip
    exact⟨by simpa using hs,h⟩
  | succ fuel ih=>
    intro done d s hc hs h
    cases d with
    | done=>
      simp only[CP]at hs
      have he:dt os af done=[]:=by simpa using hs
      exact⟨fun _=>h,by rw[he];simp⟩
    | q i d=>
      simp only[CP,Bool.and_eq_true,Bool.or_eq_true,beq_iff_eq,List.contains_iff_mem]at hs
      obtain⟨⟨hr,hp⟩,hd⟩:=hs
      simp only[bB]at h
      rcases hp with⟨h1,h2⟩|⟨h1,h2⟩
      · obtain⟨o,v,ho,hv,hk⟩:=Bm h1 h
        exact p0 ho (by simpa[nI,ho]using h1) fuel done s hc h2 hr hv (ih _ d _ (eS hc (dh.1 hr).2.2) hd hk)
      · refine⟨fun hn=>by rw[hn]at hr;simp at hr,fun j hj=>?_⟩
        have hji:j=i:=by rw[h1]at hj;simpa using hj
        subst hji
        exact gh (fun s' hs=>⟨.inl h2,ih _ _ s' (eS hc (dh.1 hr).2.2) hd hs⟩) h
    | st i rs d=>
      simp only[CP,Bool.and_eq_true,beq_iff_eq]at hs
      obtain⟨⟨h1,hrs⟩,hd⟩:=hs
      simp only[bB]at h
      refine⟨fun hn=>by rw[hn]at h1;simp at h1,fun j hj=>?_⟩
      have hji:j=i:=by rw[h1]at hj;simpa using hj
      subst hji
      exact gh (fun s' hs=>⟨.inr (.inr (Cc hrs hs.1)),ih _ _ s' (eS hc (dh.1 hj).2.2) hd hs.2⟩) h
    | all ds=>
      simp only[CP,Bool.and_eq_true,beq_iff_eq,List.all_eq_true]at hs
      obtain⟨⟨he,h1⟩,hd⟩:=hs
      simp only[bB]at h
      refine⟨fun hn=>by rw[hn]at he;simp at he,fun i hi=>?_⟩
      have hi':=hi
      rw[h1]at hi'
      obtain⟨⟨j,d⟩,hm,rfl⟩:=List.mem_map.1 hi'
      exact gh (fun s' hs=>⟨.inr (.inl hs.1),ih _ _ s' (eS hc (dh.1 hi).2.2) (hd _ hm) hs.2⟩) (qP h _ _ hm)
    | mix ds=>
      simp only[CP,Bool.and_eq_true,beq_iff_eq,List.all_eq_true]at hs
      obtain⟨⟨he,h1⟩,hd⟩:=hs
      simp only[bB]at h
      refine⟨fun hn=>by rw[hn]at he;simp at he,fun i hi=>?_⟩
      have hi':=hi
      rw[h1]at hi'
      obtain⟨⟨j,b,d⟩,hm,rfl⟩:=List.mem_map.1 hi'
      obtain⟨hb,hd⟩:=hd _ hm
      refine gh (fun s' hs=>⟨?_,ih _ _ s' (eS hc (dh.1 hi).2.2) hd hs.2⟩) (qA h _ _ _ hm)
      cases b with
      | none=>exact .inr (.inl hs.1)
      | some rs=>
        simp only[Bool.or_eq_true,Bool.and_eq_true,beq_iff_eq]at hb
        rcases hb with⟨hb,_⟩|hb
        · exact .inl hb
        · exact .inr (.inr (zf hb hs.1))
theorem Fb(tab:dS P Θ)(hm:P.follows .mixedOrders=true){gl:Gl}{os:List O}{af:List (List Nat)}{Q:AE→St→Prop}{s:St}(d:D)(hd:CP os af os.length (List.replicate os.length false) d=true)
    (h:bB P Γ gl os (Q .normal) os.length d s):pn P Θ Γ gl (.regD os af) Q s:=
  xR tab hm gl (Cj _ _ d s (ph _ _) hd h)
theorem BQ(tab:dS P Θ)(hm:P.follows .mixedOrders=true){gl:Gl}{a b:C}{Q:AE→St→Prop}{s:St}(h:aw P Θ Γ gl a (hB (pn P Θ Γ gl b Q) Q) s):pn P Θ Γ gl (.seq a b) Q s:=p8 tab hm gl a _ s h
theorem DA(tab:dS P Θ)(hm:P.follows .mixedOrders=true){gl:Gl}{a b:C}{i:Nat}{Q:AE→St→Prop}{s:St}(h:pn P Θ Γ gl a (iZ i (hB (aw P Θ Γ gl b Q) Q)) s):pn P Θ Γ gl (.seq (.block i a) b) Q s:=by
  refine kG (.block i a) s (fun e s he=>?_) (show pn P Θ Γ gl (.block i a) (hB (aw P Θ Γ gl b Q) Q) s from h)
  cases e<;>simp only[hB]at he ⊢
  · exact p8 tab hm gl _ _ _ he
  · exact he
  · exact he
theorem zF(R:St→Prop){gl:Gl}{a b:C}{Q:AE→St→Prop}{s:St}(h1:pn P Θ Γ gl a (A5 R Q) s)(h2:∀s',R s'→pn P Θ Γ gl b Q s'):pn P Θ Γ gl (.seq a b) Q s:=
  kG a s (fun e s he=>by cases e<;>first|exact h2 s he|exact he) h1
theorem Fi(tab:dS P Θ)(hm:P.follows .mixedOrders=true)(R:St→Prop){gl:Gl}{a b:C}{Q:AE→St→Prop}{s:St}(h1:aw P Θ Γ gl a (A5 R Q) s)(h2:∀s',R s'→pn P Θ Γ gl b Q s'):pn P Θ Γ gl (.seq a b) Q s:=
  zF R (p8 tab hm gl a _ s h1) h2
theorem C0{e e':List AV}{L X Y:List (List AV)}{h:AH}:Mem ⟨e,L++X,h⟩ ⟨e',L++(X++Y),h⟩:=by
  rw[←List.append_assoc];exact Mem.loc ⟨_,L++X,_⟩ _ _
theorem sq{rs:List Nat}{e e':List AV}{L:List (List AV)}{h h':AH}(hx:∀r∈rs,(∃i off,e.getD r .any=.lp i off)∨(∃c g off,e.getD r .any=.gp c g off∧h'[c]? = h[c]?)):eK rs ⟨e,L,h⟩ ⟨e',L,h'⟩:=by
  intro r hr n cs hc
  rcases hx r hr with⟨i,off,he⟩|⟨c,g,off,he,hh⟩
  · simp only[he]at hc ⊢
    simpa only[St.cells]using hc
  · simp only[he]at hc ⊢
    simp only[St.cells]at hc ⊢
    rw[show b7 h' c=b7 h c by unfold b7;rw[hh]];exact hc
theorem PL(tab:dS P Θ)(gl:Gl){c:C}{Q:AE→St→Prop}{s:St}{α:Type}(I:α→Prop)(μ:α→Nat)(st:α→St)(x:α)(hx:I x)(hs:Le s (st x))
    (round:∀x,I x→pn P Θ Γ gl c (hB (fun s'=>∃y,I y∧μ y<μ x∧Le s' (st y)) Q) (st x)):TC P Θ Γ (.loop c) Q s:=by
  refine TC.le hs (xU tab gl (fun y:{ y // I y }=>μ y.1) (fun y=>st y.1) (fun y=>kG _ _ ?_ (round y.1 y.2)) ⟨x,hx⟩)
  intro e s h
  cases e<;>simp only[hB]at h ⊢
  · obtain⟨y,h1,h2,h3⟩:=h
    exact⟨⟨y,h1⟩,h2,h3⟩
  · exact h
  · exact h
end
end Go.AM
namespace Go.AM
def LL(c0 row:List AV)(X:List (List AV)):List (List AV):=c0::row::X
theorem dD(c0 row:List AV)(X:List (List AV)):(LL c0 row X).length=X.length+2:=rfl
theorem ET(c0 row:List AV)(X Y:List (List AV)):LL c0 row X++Y=LL c0 row (X++Y):=rfl
section
variable {e:List AV} {h:AH} {c0 row:List AV} {X Y:List (List AV)}
theorem iP(off n:Nat):(St.mk e (LL c0 row X) h).cells (.lp (([]:List (List AV)).length) off) n=sub c0 off n:=rfl
theorem cK(off n:Nat):(St.mk e (LL c0 row X) h).cells (.lp (([]:List (List AV)).length+1) off) n=sub row off n:=rfl
theorem dC(off n:Nat):(St.mk e (LL c0 row X++Y) h).cells (.lp (([]:List (List AV)).length+1) off) n=sub row off n:=rfl
theorem gz(z:List AV)(off n:Nat):(St.mk e (LL c0 row X++z::Y) h).cells (.lp (X.length+2) off) n=sub z off n:=by
  simp[St.cells,LL]
theorem gN(z z2:List AV)(off n:Nat):(St.mk e (LL c0 row X++z::z2::Y) h).cells (.lp (X.length+2+1) off) n=sub z2 off n:=by
  simp[St.cells,LL]
theorem B6{off:Nat}{vs:List AV}(h1:off+vs.length≤c0.length)(h2:vs.all bU=true):(St.mk e (LL c0 row X) h).store (.lp (([]:List (List AV)).length) off) vs=some ⟨e,LL (cD c0 off vs) row X,h⟩:=by
  simp[St.store,LL,h1,h2]
theorem IS{off:Nat}{vs:List AV}(h1:off+vs.length≤row.length)(h2:vs.all bU=true):(St.mk e (LL c0 row X) h).store (.lp (([]:List (List AV)).length+1) off) vs=some ⟨e,LL c0 (cD row off vs) X,h⟩:=by
  simp[St.store,LL,h1,h2]
theorem A8{off:Nat}{vs:List AV}(h1:off+vs.length≤row.length)(h2:vs.all bU=true):(St.mk e (LL c0 row X++Y) h).store (.lp (([]:List (List AV)).length+1) off) vs=some ⟨e,LL c0 (cD row off vs) X++Y,h⟩:=by
  rw[ET,IS h1 h2,ET]
theorem tE{z:List AV}{off:Nat}{vs:List AV}(h1:off+vs.length≤z.length)(h2:vs.all bU=true):(St.mk e (LL c0 row X++z::Y) h).store (.lp (X.length+2) off) vs=some ⟨e,LL c0 row X++cD z off vs::Y,h⟩:=by
  simp[St.store,LL,h1,h2]
theorem yY{z z2:List AV}{off:Nat}{vs:List AV}(h1:off+vs.length≤z2.length)(h2:vs.all bU=true):(St.mk e (LL c0 row X++z::z2::Y) h).store (.lp (X.length+2+1) off) vs=some ⟨e,LL c0 row X++z::cD z2 off vs::Y,h⟩:=by
  simp[St.store,LL,h1,h2]
end
end Go.AM
namespace Go.AM
theorem VO.ou{H:AH}{b:Nat}{v:ar}{wE w2 wL w4:AV}{fE f2 fL f4:List Nat}(o:VO H b v wE w2 wL w4 fE f2 fL f4){k:Nat}(hk:k<v.entities.length):∃bL gL pre row post f0,dV 12 wE (k:Int)=some (.gp bL gL (pre:List AV).length)∧kC H bL gL pre row post∧
    row.length=12∧aG H row v.entities[k].cd f0∧f0.Nodup∧(∀c∈f0,c∈fE)∧bL∈fE∧bL∉f0∧
    ∀(H5:AH) (row':List AV) (l':aq) (f' G:List Nat),H.length≤H5.length→(∀c∈G,c∉eL fE f2 fL f4∧c≠b)→kC H5 bL gL pre row' post→aG H5 row' l'.cd f'→f'.Nodup→(∀c∈f',c∈f0∨c∈G∨H.length≤c)→(∀c,c<H.length→c∉f0→c∉G→c≠bL→H5[c]? = H[c]?)→
      ∃fE',VO H5 b { v with entities:=v.entities.set k l' } wE w2 wL w4 fE' f2 fL f4∧(∀c∈fE',(c∈fE∧c∉f0)∨c∈f'):=by
  have vlt:=o.lt
  have bf:=o.bf
  have blt:=o.blt
  have hb:=o.hb
  have hkm:k<(v.entities.map aq.cd).length:=by simpa using hk
  obtain⟨bL,gL,pre,rowL,post,fL0,iL,mL,lL,oLr,nLr,sLr,bmL,bnL,close⟩:=o.oE.zx o.nE hkm
  rw[List.getElem_map]at oLr
  have hfE:∀c∈fE,c<H.length:=fun c hc=>vlt c (aN.2 (.inl hc))
  refine⟨bL,gL,pre,rowL,post,fL0,iL,mL,lL,oLr,nLr,sLr,bmL,bnL,fun H5 row' l' f' G hl dG m5 o' n' b' fr=>?_⟩
  obtain⟨fL',oL5,nL5,mL5⟩:=close H5 _ l'.cd f' o' n' rfl (fun c hc=>by
    rcases b' c hc with g|g|g
    · exact .inl g
    · exact .inr (fun h=>(dG c g).1 (aN.2 (.inl h)))
    · exact .inr (fun h=>by have:=hfE c h;omega)) m5 (fun c hc hcf hcb=>fr c (hfE c hc) hcf (fun h=>(dG c h).1 (aN.2 (.inl hc))) hcb)
  have hb5:b7 H5 b=some (0,[.int .i64 v.id,wE,w2,wL,w4]):=by
    rw[bt (fr b blt (fun h=>bf (aN.2 (.inl (sLr b h)))) (fun h=>(dG b h).2 rfl) (fun e=>bf (aN.2 (.inl (e▸bmL)))))];exact hb
  rw[←List.map_set]at oL5
  have u:=o.Gd (G:=G) hb5 oL5 nL5 (fun c hc=>by
    rcases mL5 c hc with g|g
    · exact .inl g.1
    · rcases b' c g with q|q|q
      · exact .inl (sLr c q)
      · exact .inr (.inl q)
      · exact .inr (.inr q)) dG hl
    (fun c h1 h2 h3 h4=>fr c h4 (fun h=>h1 (sLr c h)) h2 (fun e=>h1 (e▸bmL)))
  exact⟨_,u,mL5⟩
theorem kC.put{H:AH}{b g:Nat}{pre row post:List AV}(m:kC H b g pre row post)(i:Nat)(vs:List AV)(hi:i+vs.length≤row.length)(hv:vs.all bj=true):
    ∃H',(∀(e:List AV) (L:List (List AV)),(St.mk e L H).store (.gp b g (pre.length+i)) vs=some ⟨e,L,H'⟩)∧kC H' b g pre (cD row i vs) post∧H'.length=H.length∧∀c,c≠b→H'[c]? = H[c]?:=m.store hi hv
end Go.AM
