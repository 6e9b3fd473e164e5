import Derived.Test.YtolciaflplefcaaGreatAmG9
import Derived.Test.YtolciaflplefcaaGreatAmG6
import Derived.Test.YtolciaflplefcaaGreatAmG8
set_option linter.unusedVariables false
set_option linter.unusedSimpArgs false
open List renaming nodup_append→Aaa,drop_append_of_le_length→Aab,length_append→Aac,mem_append→Aad,getElem_map→Aaf,flatten_cons→Aah,take_append_of_le_length→Aaj,mem_append_left→Aak,flatten_append→Aal,map_set→Aam,getElem?_append_right→Aan,length_drop→Aao,all_eq_true→Aap,mem_map→Aaq,nodup_cons→Aar,append_assoc→Aas,length_take→Aau,length_cons→Aaw,map_append→Aay
open Nat renaming mul_le_mul_right→Aae,add_mul→Aai,zero_add→Aat,le_refl→Aax,min_eq_left→Aaz
open Bool renaming and_eq_true→Aag,or_eq_true→AaA
open Option renaming bind_some→Aav
namespace Go.AM
theorem Hq{H:AH}{q:Nat}{x:AV}(hq:cF H q=some (0,[x])):ou H (.gp q 0 0) (.ip true [x]):=by
 refine .gp q 0 0 [x] [x] (fun _=>x) (fC hq) (fun j y hy=>?_) (fun j y hy=>?_)
 ·cases j with
  | zero=>rfl
  | succ j=>simp at hy
 ·cases j with
  | zero=>simp at hy;subst hy;exact .same _
  | succ j=>simp at hy
theorem IN{H:AH}{g:FuncId}{a a':AV}(ha:ou H a a'):ou H (.fn g [] [a]) (.fn g [] [a']):=by
 refine .fn g _ _ rfl (fun i=>[a].getD i .any) (fun i y hy=>?_) (fun i y hy=>?_)
 ·match i,hy with
  | 0,_=>rfl
  | n+1,h=>simp at h
 ·match i,hy with
  | 0,h=>simp at h;subst h;exact ha
  | n+1,h=>simp at h
theorem Fz{α:Type}{p:α→Bool}{l:List α}{k:Nat}(h:iq p l=(k:Int)):∀(i:Nat) (hi:i<l.length),i<k→p l[i]=false:=by
 unfold iq at h;split at h
 ·rename_i j hj;have hjk:j=k:=by omega
  subst hjk;obtain⟨_,_,h3⟩:=List.findIdx?_eq_some_iff_getElem.1 hj;intro i hi hik;have:=h3 i hik;simpa using this
 ·omega
theorem Uq(i:Nat):qM (.int .i64 (i:Int))=some i:=by simp[qM,JC]
theorem Y8{Γ:bG}(s:St)(d:Nat)(x:X):AG Γ s d (some x)=qM (s.eval Γ x):=rfl
def Nd(k:SK)(s:St)(v lo hi mx:AV):AR:=match qM lo,qM hi,qM mx with|some l,some h,some m=>.nD s (pO k v l (some h) (some m))|_,_,_=>.stuck
theorem Tq{Γ:bG}(gl:Bool)(s:St)(k:SK)(x y z w:X):step Γ gl s (.slice k x (some y) (some z) (some w))=Nd k s (s.eval Γ x) (s.eval Γ y) (s.eval Γ z) (s.eval Γ w):=by
 simp only[step,Nd,Y8];cases qM (s.eval Γ y)<;>cases qM (s.eval Γ z)<;>cases qM (s.eval Γ w)<;>rfl
theorem MY(s:St){b g len cap sz l h m:Nat}{ex:Bool}(h1:l≤h)(h2:h≤m)(h3:m≤cap):Nd (.sl sz) s (.gs b g 0 len cap sz ex) (.int .i64 l) (.int .i64 h) (.int .i64 m)=.val (.gs b g (l*sz) (h-l) (m-l) sz true) s:=by
 simp[Nd,Uq,pO,AR.nD,h1,h2,h3]
theorem GJ(s:St){b g len cap sz l h:Nat}{ex:Bool}(h1:l≤h)(h2:h≤cap):AN (.sl sz) s (.gs b g 0 len cap sz ex) (.int .i64 l) (.int .i64 h)=.val (.gs b g (l*sz) (h-l) (cap-l) sz ex) s:=by
 simp[AN,Uq,pO,AR.nD,h1,h2]
section
variable {α:Type} {c:α→List AV} {sz:Nat} (hc:∀x,(c x).length=sz)
include hc
theorem CG(l:List α)(i:Nat)(hi:i≤l.length):((l.map c).flatten).drop (i*sz)=((l.drop i).map c).flatten:=by
 have e:(l.map c).flatten=((l.take i).map c).flatten++((l.drop i).map c).flatten:=by
  conv=>lhs;rw[←List.take_append_drop i l]
  rw[Aay,Aal]
 have h2:((l.take i).map c).flatten.length=i*sz:=by rw[j8 (fun x _=>hc x),Aau,Aaz hi]
 rw[e,←h2,List.drop_left]
theorem Ka(l:List α){k:Nat}(hk:k<l.length)(tail:List AV):c8 ((l.map c).flatten++tail) (k*sz) ((l.drop (k+1)).map c).flatten=((l.take k++(l.drop (k+1)++l.drop (l.length-1))).map c).flatten++tail:=by
 obtain⟨h1,h2⟩:=rX hc hk tail;have h3:((l.drop (k+1)).map c).flatten.length=(l.length-(k+1))*sz:=by rw[j8 (fun x _=>hc x),Aao]
 have h4:((l.map c).flatten).length=l.length*sz:=by rw[j8 (fun x _=>hc x)]
 have ht:((l.map c).flatten++tail).take (k*sz)=((l.take k).map c).flatten:=by rw[h1,←h2,List.take_left]
 have hd:k*sz+(l.length-(k+1))*sz=(l.length-1)*sz:=by rw[←Aai];congr 1;omega
 have hle:(l.length-1)*sz≤l.length*sz:=Aae _ (by omega);unfold c8;rw[ht,h3,hd,Aab (by rw[h4];exact hle),CG hc l _ (by omega)];simp only[Aay,Aal,Aas]
theorem Na(l:List α){k:Nat}(hk:k<l.length)(tail:List AV){H:AH}{b g cap bytes:Nat}{ex:Bool}(h:cF H b=some (g,(l.map c).flatten++tail))(hcap:l.length≤cap)(hn:((l.map c).flatten).all bM=true)(hz:0<sz)(hb:l.length*(sz+bytes)≤aU)(e:List AV)(L:List (List AV)):
 AI ⟨e,L,H⟩ sz bytes (.gs b g 0 k cap sz ex) (iU ⟨e,L,H⟩ sz false (.gs b g ((k+1)*sz) (l.length-(k+1)) (cap-(k+1)) sz ex)) (lenOf (.gs b g ((k+1)*sz) (l.length-(k+1)) (cap-(k+1)) sz ex)) (lenOf (.gs b g 0 k cap sz ex)) =
  .val (.gs b g 0 (l.length-1) cap sz ex) ⟨e,L,H.set b (some (g,((l.take k++(l.drop (k+1)++l.drop (l.length-1))).map c).flatten++tail))⟩:=by
 have h3:((l.drop (k+1)).map c).flatten.length=(l.length-(k+1))*sz:=by rw[j8 (fun x _=>hc x),Aao]
 have h4:((l.map c).flatten).length=l.length*sz:=by rw[j8 (fun x _=>hc x)]
 have hle:(k+1)*sz+(l.length-(k+1))*sz=l.length*sz:=by rw[←Aai];congr 1;omega
 have src:iU ⟨e,L,H⟩ sz false (.gs b g ((k+1)*sz) (l.length-(k+1)) (cap-(k+1)) sz ex)=some ((l.drop (k+1)).map c).flatten:=by
  simp only[iU,St.b6,h,Aav,if_true];unfold sub;rw[if_pos (by rw[Aac,h4];omega),Aab (by rw[h4];omega),CG hc l _ (by omega),Aaj (by omega),List.take_of_length_le (by omega)]
 have hn2:((l.drop (k+1)).map c).flatten.all bM=true:=by
  rw[Aap]at hn ⊢;intro x hx;refine hn x ?_;rw[List.mem_flatten]at hx ⊢;obtain⟨y,hy,hxy⟩:=hx;obtain⟨z,hz,rfl⟩:=Aaq.1 hy;exact⟨_,Aaq.2 ⟨z,List.mem_of_mem_drop hz,rfl⟩,hxy⟩
 have hlen:k+(l.length-(k+1))=l.length-1:=by omega
 have hll:(l.length-1)*sz≤l.length*sz:=Aae _ (by omega);have hmm:(l.length-1)*(sz+bytes)≤l.length*(sz+bytes):=Aae _ (by omega);rw[src];simp only[lenOf,AI,sS,AR.JA];rw[if_neg (by omega),hlen,if_neg (by omega)];simp only[h,Aav,if_true,hn2];rw[if_pos (by omega),if_pos (by rw[Aac,h4];omega),Aat,Ka hc l hk tail]
end
end Go.AM
namespace Go.AM
section
variable {P:Program} {Θ:ub} {Γ:bG}
theorem EU{H:AH}{a:AV}{d:CD}{fp:List Nat}(hd:d.flat=true)(o:b9 H a d fp):a=d.av true∧fp=[]:=by
 cases d with
 | i=>obtain⟨rfl,rfl⟩:=j6.1 o;simp[CD.mY]
 | b=>obtain⟨rfl,rfl⟩:=oF.1 o;simp[CD.uC]
 | s=>obtain⟨rfl,rfl⟩:=nF.1 o;simp[CD.uD]
 | sl=>cases hd
theorem aX.c3{h H:AH}{d d' d'':CD}(hd:d'.flat=true)(hd2:d''.flat=true){v:AV}(f:aX h [.c d,.c d',.c d''] v H):∃a fp,v=.tup [a,d'.av true,d''.av true]∧b9 H a d fp∧fp.Nodup∧(∀b∈fp,h.length≤b)∧cQ h H:=by
 obtain⟨vs,new,fp,rfl,rfl,o,nd,hb,_⟩:=f
 match vs,o with
 | [a,a',a''],⟨f1,f2,e,o1,f3,f4,e',o2,f5,f6,e'',o3,e3⟩=>
  obtain⟨rfl,rfl⟩:=EU hd o2;obtain⟨rfl,rfl⟩:=EU hd2 o3;have e3:f6=[]:=e3;subst e3;simp at e'';subst e'';simp at e';subst e';simp at e;subst e;exact⟨a,fp,rfl,o1,nd,hb,cQ.app h new⟩
theorem aX.ac{h H:AH}{cs:List CD}{d d':CD}(hd:d'.flat=true){v:AV}(f:aX h [.a cs,.c d,.c d'] v H):∃aa a f1 f2,v=.tup [.agg aa,a,d'.av true]∧aM H aa cs f1∧b9 H a d f2∧(f1++f2).Nodup∧(∀b∈f1++f2,h.length≤b)∧cQ h H:=by
 obtain⟨vs,new,fp,rfl,rfl,o,nd,hb,_⟩:=f
 match vs,o with
 | [a,a',a''],⟨f1,f2,e,o1,f3,f4,e',o2,f5,f6,e'',o3,e3⟩=>
  obtain⟨aa,rfl,o1⟩:=o1;obtain⟨rfl,rfl⟩:=EU hd o3;have e3:f6=[]:=e3;subst e3;simp at e'';subst e'';simp at e';subst e';subst e;exact⟨aa,a',f1,f2,rfl,o1,o2,nd,hb,cQ.app h new⟩
end
end Go.AM
namespace Go.AM
section
variable {P:Program} {Θ:ub} {Γ:bG}
theorem BB{f g:Nat→D→Prop}:∀{ds:List (Nat×D)},(∀i d,f i d→g i d)→B2 f ds→B2 g ds
 | [],_,_=>trivial
 | (_,_)::_,h,a=>⟨h _ _ a.1,BB h a.2⟩
theorem BG{f g:Nat→Option (List Nat)→D→Prop}:∀{ds:List (Nat×Option (List Nat)×D)},(∀i b d,f i b d→g i b d)→yX f ds→yX g ds
 | [],_,_=>trivial
 | (_,_,_)::_,h,a=>⟨h _ _ _ a.1,BG h a.2⟩
theorem tp{gl:Gl}{os:List O}{K K':St→Prop}(hk:∀s,K s→K' s):∀(n:Nat) (d:D) (s:St),fy P Γ gl os K n d s→fy P Γ gl os K' n d s
 | 0,.done,s,h=>hk s h
 | n+1,.done,s,h=>hk s h
 | n+1,.q i d,s,h=>kI (fun s' h=>tp hk n d s' h) h
 | n+1,.st i rs d,s,h=>kI (fun s' h=>⟨h.1,tp hk n d s' h.2⟩) h
 | n+1,.all ds,s,h=>BB (fun i d h=>kI (fun s' h=>⟨h.1,tp hk n d s' h.2⟩) h) h
 | n+1,.mix ds,s,h=>BG (fun i b d h=>kI (fun s' h=>⟨h.1,tp hk n d s' h.2⟩) h) h
 | 0,.mix _,_,h=>h.elim
 | 0,.q _ _,_,h=>h.elim
 | 0,.st _ _ _,_,h=>h.elim
 | 0,.all _,_,h=>h.elim
theorem Nq{gl:Gl}:∀(c:C) {Q Q':AE→St→Prop} (s:St),(∀e s,Q e s→Q' e s)→aw P Θ Γ gl c Q s→aw P Θ Γ gl c Q' s:=by
 intro c
 induction c with
 | skip=>exact fun s hq h=>hq _ s h
 | reg os=>exact fun s hq h=>p8 os s (hq _) h
 | regD os af=>
  intro Q Q' s hq h;simp only[aw]at h ⊢;split at h
  ·exact tp (hq _) _ _ s h
  ·exact h.elim
 | seq a b iha ihb=>
  intro Q Q' s hq h;exact iha s (fun e s he=>by cases e<;>simp only[nt]at he ⊢<;>first|exact ihb s hq he|exact hq _ s he) h
 | cond c a b iha ihb=>
  intro Q Q' s hq h;simp only[aw]at h ⊢;split at h
  ·exact⟨fun ht=>iha s hq (h.1 ht),fun ht=>ihb s hq (h.2 ht)⟩
  ·exact h.elim
 | block id c ih=>
  intro Q Q' s hq h;refine ih s (fun e s he=>?_) h;cases e with
  | normal=>exact hq _ s he
  | exit i=>
   simp only[pT]at he ⊢;split at he
   ·rename_i hi;rw[if_pos hi];exact hq _ s he
   ·rename_i hi;rw[if_neg hi];exact hq _ s he
  | ret=>exact hq _ s he
 | loop c=>exact fun s hq h=>TC.mono h hq
 | exit id=>exact fun s hq h=>hq _ s h
 | ret=>exact fun s hq h=>hq _ s h
def GQ(R:St→Prop)(Q:AE→St→Prop):AE→St→Prop
 | .normal,s=>R s
 | e,s=>Q e s
theorem VJ(R:St→Prop)(Q:AE→St→Prop):GQ R Q .normal=R:=rfl
theorem Vz(R:St→Prop)(Q:AE→St→Prop):GQ R Q .ret=Q .ret:=rfl
theorem Zh(R:St→Prop)(Q:AE→St→Prop)(i:Nat):GQ R Q (.exit i)=Q (.exit i):=rfl
theorem BN{gl:Gl}{a b:C}{Q:AE→St→Prop}{s:St}(R:St→Prop)(h1:aw P Θ Γ gl a (GQ R Q) s)(h2:∀s,R s→aw P Θ Γ gl b Q s):aw P Θ Γ gl (.seq a b) Q s:=
 Nq a s (fun e s he=>by cases e<;>first|exact h2 s he|exact he) h1
def qv(e:List AV)(n:Nat):AV:=e.getD n .any
theorem rA{e:List AV}{loc:List (List AV)}{h:AH}{n:Nat}(hn:e.length=n):(⟨e,loc,h⟩:St)=⟨(List.range n).map (qv e),loc,h⟩:=by
 subst hn
 congr 1
 apply List.ext_getElem (by simp);intro i h1 h2;simp[qv,List.getD_eq_getElem?_getD,List.getElem?_eq_getElem h1]
end
theorem jt:type_of% (And.intro @VJ (And.intro @Vz @Zh)):=And.intro @VJ (And.intro @Vz @Zh)
end Go.AM
namespace Go.AM
section
variable {P:Program} {Θ:ub} {Γ:bG}
end
end Go.AM
namespace Go.AM
theorem kJ{H:AH}{cells:List AV}{v:ar}{f:List Nat}(o:aM H cells v.cd f):∃wE w2 wL w4 fE f2 fL f4,cells=[.int .i64 v.id,wE,w2,wL,w4]∧f=fE++(f2++(fL++f4))∧b9 H wE (.sl 12 (v.entities.map aA.cd)) fE∧b9 H w2 (.sl 7 (v.loop.map aK.cd)) f2∧b9 H wL (.sl 7 (v.aq.map aF.cd)) fL∧b9 H w4 (.sl 13 (v.out.map aY.cd)) f4:=by
 simp only[ar.cd,jv,jy,j6,oF,nF]at o;obtain⟨_,_,_,_,rfl,rfl,⟨rfl,rfl⟩,⟨wE,_,fE,_,rfl,rfl,oE,⟨w2,_,f2,_,rfl,rfl,o2,⟨wL,_,fL,_,rfl,rfl,oL,⟨w4,_,f4,_,rfl,rfl,o4,⟨rfl,rfl⟩⟩⟩⟩⟩⟩:=o;exact⟨wE,w2,wL,w4,fE,f2,fL,f4,rfl,by simp,oE,o2,oL,o4⟩
theorem Zb{H:AH}{v:ar}{wE w2 wL w4:AV}{fE f2 fL f4:List Nat}(oE:b9 H wE (.sl 12 (v.entities.map aA.cd)) fE)(o2:b9 H w2 (.sl 7 (v.loop.map aK.cd)) f2)(oL:b9 H wL (.sl 7 (v.aq.map aF.cd)) fL)(o4:b9 H w4 (.sl 13 (v.out.map aY.cd)) f4):
 aM H [.int .i64 v.id,wE,w2,wL,w4] v.cd (fE++(f2++(fL++f4))):=by
 have e:f4=f4++[]:=by simp
 rw[e];exact .i (.o oE (.o o2 (.o oL (.o o4 .nil))))
def dj(f g:List Nat):Prop:=∀c∈f,c∉g
theorem dj.symm{f g:List Nat}(h:dj f g):dj g f:=fun c hc hd=>h c hd hc
structure VO (H:AH) (b:Nat) (v:ar) (wE w2 wL w4:AV) (fE f2 fL f4:List Nat):Prop where
 hb:cF H b=some (0,[.int .i64 v.id,wE,w2,wL,w4])
 oE:b9 H wE (.sl 12 (v.entities.map aA.cd)) fE
 o2:b9 H w2 (.sl 7 (v.loop.map aK.cd)) f2
 oL:b9 H wL (.sl 7 (v.aq.map aF.cd)) fL
 o4:b9 H w4 (.sl 13 (v.out.map aY.cd)) f4
 nE:fE.Nodup
 n2:f2.Nodup
 nL:fL.Nodup
 n4:f4.Nodup
 dE2:dj fE f2
 dEL:dj fE fL
 dE4:dj fE f4
 d2L:dj f2 fL
 d24:dj f2 f4
 dL4:dj fL f4
 bE:b∉fE
 b2:b∉f2
 bL:b∉fL
 b4:b∉f4
def dh(fE f2 fL f4:List Nat):List Nat:=fE++(f2++(fL++f4))
theorem aO{fE f2 fL f4:List Nat}{c:Nat}:c∈dh fE f2 fL f4↔c∈fE∨c∈f2∨c∈fL∨c∈f4:=by simp[dh]
def jr(H:AH)(b:Nat)(v:ar)(f:List Nat):Prop:=∃wE w2 wL w4 fE f2 fL f4,f=dh fE f2 fL f4∧VO H b v wE w2 wL w4 fE f2 fL f4
section
variable {H:AH} {b:Nat} {v:ar} {wE w2 wL w4:AV} {fE f2 fL f4:List Nat}
theorem VO.nodup(o:VO H b v wE w2 wL w4 fE f2 fL f4):(dh fE f2 fL f4).Nodup:=by
 refine Aaa.2 ⟨o.nE,Aaa.2 ⟨o.n2,Aaa.2 ⟨o.nL,o.n4,fun x hx y hy e=>o.dL4 x hx (e▸hy)⟩,fun x hx y hy e=>?_⟩,fun x hx y hy e=>?_⟩
 ·subst e;rcases Aad.1 hy with g|g
  ·exact o.d2L x hx g
  ·exact o.d24 x hx g
 ·subst e;simp only[Aad]at hy;rcases hy with g|g|g
  ·exact o.dE2 x hx g
  ·exact o.dEL x hx g
  ·exact o.dE4 x hx g
theorem VO.own(o:VO H b v wE w2 wL w4 fE f2 fL f4):aM H [.int .i64 v.id,wE,w2,wL,w4] v.cd (dh fE f2 fL f4):=Zb o.oE o.o2 o.oL o.o4
theorem VO.lt(o:VO H b v wE w2 wL w4 fE f2 fL f4):∀c∈dh fE f2 fL f4,c<H.length:=o.own.lt
theorem VO.blt(o:VO H b v wE w2 wL w4 fE f2 fL f4):b<H.length:=eS o.hb
theorem VO.bf(o:VO H b v wE w2 wL w4 fE f2 fL f4):b∉dh fE f2 fL f4:=fun h=>by
 rcases aO.1 h with g|g|g|g
 ·exact o.bE g
 ·exact o.b2 g
 ·exact o.bL g
 ·exact o.b4 g
theorem VO.mk'{f:List Nat}(hb:cF H b=some (0,[.int .i64 v.id,wE,w2,wL,w4]))(oE:b9 H wE (.sl 12 (v.entities.map aA.cd)) fE)(o2:b9 H w2 (.sl 7 (v.loop.map aK.cd)) f2)(oL:b9 H wL (.sl 7 (v.aq.map aF.cd)) fL)(o4:b9 H w4 (.sl 13 (v.out.map aY.cd)) f4)
 (nd:(fE++(f2++(fL++f4))).Nodup) (hf:b∉fE++(f2++(fL++f4))):VO H b v wE w2 wL w4 fE f2 fL f4:=by
 obtain⟨nE,n1,q1⟩:=Aaa.1 nd;obtain⟨n2,n3,q2⟩:=Aaa.1 n1;obtain⟨nL,n4,q3⟩:=Aaa.1 n3;simp only[Aad,not_or]at hf;exact⟨hb,oE,o2,oL,o4,nE,n2,nL,n4,fun c h g=>q1 c h c (by simp[g]) rfl,fun c h g=>q1 c h c (by simp[g]) rfl,fun c h g=>q1 c h c (by simp[g]) rfl,fun c h g=>q2 c h c (by simp[g]) rfl,fun c h g=>q2 c h c (by simp[g]) rfl,fun c h g=>q3 c h c g rfl,hf.1,hf.2.1,hf.2.2.1,hf.2.2.2⟩
theorem jr.of{cells:List AV}{f:List Nat}(hb:cF H b=some (0,cells))(o:aM H cells v.cd f)(nd:f.Nodup)(hf:b∉f):jr H b v f:=by
 obtain⟨wE,w2,wL,w4,fE,f2,fL,f4,rfl,rfl,oE,o2,oL,o4⟩:=kJ o;exact⟨wE,w2,wL,w4,fE,f2,fL,f4,rfl,VO.mk' (f:=[]) hb oE o2 oL o4 nd hf⟩
theorem jr.lt{f:List Nat}(a:jr H b v f):(∀c∈f,c<H.length)∧b<H.length∧b∉f∧f.Nodup:=by
 obtain⟨_,_,_,_,_,_,_,_,rfl,o⟩:=a;exact⟨o.lt,o.blt,o.bf,o.nodup⟩
theorem jr.frame{f:List Nat}{H':AH}(a:jr H b v f)(h:∀c,c∈f∨c=b→H'[c]? = H[c]?):jr H' b v f:=by
 obtain⟨wE,w2,wL,w4,fE,f2,fL,f4,rfl,o⟩:=a;refine⟨wE,w2,wL,w4,fE,f2,fL,f4,rfl,?_,o.oE.frame fun c hc=>h c (.inl (aO.2 (.inl hc))),o.o2.frame fun c hc=>h c (.inl (aO.2 (.inr (.inl hc)))),o.oL.frame fun c hc=>h c (.inl (aO.2 (.inr (.inr (.inl hc))))),o.o4.frame fun c hc=>h c (.inl (aO.2 (.inr (.inr (.inr hc))))),o.nE,o.n2,o.nL,o.n4,o.dE2,o.dEL,o.dE4,o.d2L,o.d24,o.dL4,o.bE,o.b2,o.bL,o.b4⟩;rw[bc (h b (.inr rfl))];exact o.hb
end
def e9(H:AH)(b:Nat)(F:Nat→Prop)(H':AH)(v':ar):Prop:=
 ∃f',jr H' b v' f'∧H.length≤H'.length∧(∀c∈f',F c∨H.length≤c)∧∀c,¬F c→c≠b→c<H.length→H'[c]? = H[c]?
theorem e9.refl{H:AH}{b:Nat}{v:ar}{f:List Nat}{F:Nat→Prop}(a:jr H b v f)(hF:∀c∈f,F c):e9 H b F H v:=⟨f,a,Aax _,fun c hc=>.inl (hF c hc),fun _ _ _ _=>rfl⟩
theorem e9.trans{H H1 H2:AH}{b:Nat}{F:Nat→Prop}{f1:List Nat}{G:Nat→Prop}{v2:ar}(l1:H.length≤H1.length)(m1:∀c∈f1,F c∨H.length≤c)(r1:∀c,¬F c→c≠b→c<H.length→H1[c]? = H[c]?)
 (u:e9 H1 b G H2 v2) (hG:∀c,G c→c∈f1∨F c∨H.length≤c):e9 H b F H2 v2:=by
 obtain⟨f2,a2,l2,m2,r2⟩:=u;have hG':∀c,G c→F c∨H.length≤c:=fun c hc=>by
  rcases hG c hc with g|g|g
  ·exact m1 c g
  ·exact .inl g
  ·exact .inr g
 refine⟨f2,a2,by omega,fun c hc=>?_,fun c hF hb hl=>?_⟩
 ·rcases m2 c hc with g|g
  ·exact hG' c g
  ·exact .inr (by omega)
 ·rw[r2 c (fun g=>(hG' c g).elim hF (fun g=>by omega)) hb (by omega),r1 c hF hb hl]
theorem e9.mono{H H':AH}{b:Nat}{F G:Nat→Prop}{v:ar}(u:e9 H b F H' v)(h:∀c,F c→G c):e9 H b G H' v:=by
 obtain⟨f,a,l,m,r⟩:=u;exact⟨f,a,l,fun c hc=>(m c hc).imp (h c) id,fun c hG=>r c (fun hF=>hG (h c hF))⟩
section
variable {H H':AH} {b:Nat} {v:ar} {wE w2 wL w4:AV} {fE f2 fL f4 G:List Nat}
theorem VO.JZ(o:VO H b v wE w2 wL w4 fE f2 fL f4){wE':AV}{es':List aA}{fE':List Nat}(hb:cF H' b=some (0,[.int .i64 v.id,wE',w2,wL,w4]))(oE:b9 H' wE' (.sl 12 (es'.map aA.cd)) fE')(nE:fE'.Nodup)
 (mE:∀c∈fE',c∈fE∨c∈G∨H.length≤c) (dG:∀c∈G,c∉dh fE f2 fL f4∧c≠b) (hl:H.length≤H'.length) (fr:∀c,c∉fE→c∉G→c≠b→c<H.length→H'[c]? = H[c]?):
 VO H' b { v with entities:=es' } wE' w2 wL w4 fE' f2 fL f4:=by
 have lt:=o.lt;have bf:=o.bf;have key:∀c,c∈f2∨c∈fL∨c∈f4→H'[c]? = H[c]?∧c∉fE':=fun c hc=>by
  have hm:c∈dh fE f2 fL f4:=aO.2 (.inr hc);have hE:c∉fE:=fun g=>by
   rcases hc with q|q|q
   ·exact o.dE2 c g q
   ·exact o.dEL c g q
   ·exact o.dE4 c g q
  have hG:c∉G:=fun g=>(dG c g).1 hm;refine⟨fr c hE hG (fun e=>bf (e▸hm)) (lt c hm),fun h=>?_⟩;rcases mE c h with g|g|g
  ·exact hE g
  ·exact hG g
  ·have:=lt c hm;omega
 refine⟨hb,oE,o.o2.frame fun c hc=>(key c (.inl hc)).1,o.oL.frame fun c hc=>(key c (.inr (.inl hc))).1,o.o4.frame fun c hc=>(key c (.inr (.inr hc))).1,nE,o.n2,o.nL,o.n4,fun c h g=>(key c (.inl g)).2 h,fun c h g=>(key c (.inr (.inl g))).2 h,fun c h g=>(key c (.inr (.inr g))).2 h,o.d2L,o.d24,o.dL4,fun h=>?_,o.b2,o.bL,o.b4⟩;rcases mE b h with g|g|g
 ·exact o.bE g
 ·exact(dG b g).2 rfl
 ·have:=o.blt;omega
theorem VO.ZS(o:VO H b v wE w2 wL w4 fE f2 fL f4){w2':AV}{l':List aK}{f2':List Nat}(hb:cF H' b=some (0,[.int .i64 v.id,wE,w2',wL,w4]))(o2:b9 H' w2' (.sl 7 (l'.map aK.cd)) f2')(n2:f2'.Nodup)
 (m2:∀c∈f2',c∈f2∨c∈G∨H.length≤c) (dG:∀c∈G,c∉dh fE f2 fL f4∧c≠b) (hl:H.length≤H'.length) (fr:∀c,c∉f2→c∉G→c≠b→c<H.length→H'[c]? = H[c]?):
 VO H' b { v with loop:=l' } wE w2' wL w4 fE f2' fL f4:=by
 have lt:=o.lt;have bf:=o.bf;have key:∀c,c∈fE∨c∈fL∨c∈f4→H'[c]? = H[c]?∧c∉f2':=fun c hc=>by
  have hm:c∈dh fE f2 fL f4:=aO.2 (by rcases hc with q|q|q<;>simp[q]);have hE:c∉f2:=fun g=>by
   rcases hc with q|q|q
   ·exact o.dE2 c q g
   ·exact o.d2L c g q
   ·exact o.d24 c g q
  have hG:c∉G:=fun g=>(dG c g).1 hm;refine⟨fr c hE hG (fun e=>bf (e▸hm)) (lt c hm),fun h=>?_⟩;rcases m2 c h with g|g|g
  ·exact hE g
  ·exact hG g
  ·have:=lt c hm;omega
 refine⟨hb,o.oE.frame fun c hc=>(key c (.inl hc)).1,o2,o.oL.frame fun c hc=>(key c (.inr (.inl hc))).1,o.o4.frame fun c hc=>(key c (.inr (.inr hc))).1,o.nE,n2,o.nL,o.n4,fun c h g=>(key c (.inl h)).2 g,o.dEL,o.dE4,fun c h g=>(key c (.inr (.inl g))).2 h,fun c h g=>(key c (.inr (.inr g))).2 h,o.dL4,o.bE,fun h=>?_,o.bL,o.b4⟩;rcases m2 b h with g|g|g
 ·exact o.b2 g
 ·exact(dG b g).2 rfl
 ·have:=o.blt;omega
theorem VO.Jw(o:VO H b v wE w2 wL w4 fE f2 fL f4){wL':AV}{l':List aF}{fL':List Nat}(hb:cF H' b=some (0,[.int .i64 v.id,wE,w2,wL',w4]))(oL:b9 H' wL' (.sl 7 (l'.map aF.cd)) fL')(nL:fL'.Nodup)
 (mL:∀c∈fL',c∈fL∨c∈G∨H.length≤c) (dG:∀c∈G,c∉dh fE f2 fL f4∧c≠b) (hl:H.length≤H'.length) (fr:∀c,c∉fL→c∉G→c≠b→c<H.length→H'[c]? = H[c]?):
 VO H' b { v with aq:=l' } wE w2 wL' w4 fE f2 fL' f4:=by
 have lt:=o.lt;have bf:=o.bf;have key:∀c,c∈fE∨c∈f2∨c∈f4→H'[c]? = H[c]?∧c∉fL':=fun c hc=>by
  have hm:c∈dh fE f2 fL f4:=aO.2 (by rcases hc with q|q|q<;>simp[q]);have hE:c∉fL:=fun g=>by
   rcases hc with q|q|q
   ·exact o.dEL c q g
   ·exact o.d2L c q g
   ·exact o.dL4 c g q
  have hG:c∉G:=fun g=>(dG c g).1 hm;refine⟨fr c hE hG (fun e=>bf (e▸hm)) (lt c hm),fun h=>?_⟩;rcases mL c h with g|g|g
  ·exact hE g
  ·exact hG g
  ·have:=lt c hm;omega
 refine⟨hb,o.oE.frame fun c hc=>(key c (.inl hc)).1,o.o2.frame fun c hc=>(key c (.inr (.inl hc))).1,oL,o.o4.frame fun c hc=>(key c (.inr (.inr hc))).1,o.nE,o.n2,nL,o.n4,o.dE2,fun c h g=>(key c (.inl h)).2 g,o.dE4,fun c h g=>(key c (.inr (.inl h))).2 g,o.d24,fun c h g=>(key c (.inr (.inr g))).2 h,o.bE,o.b2,fun h=>?_,o.b4⟩;rcases mL b h with g|g|g
 ·exact o.bL g
 ·exact(dG b g).2 rfl
 ·have:=o.blt;omega
theorem VO.upd4(o:VO H b v wE w2 wL w4 fE f2 fL f4){w4':AV}{l':List aY}{f4':List Nat}(hb:cF H' b=some (0,[.int .i64 v.id,wE,w2,wL,w4']))(o4:b9 H' w4' (.sl 13 (l'.map aY.cd)) f4')(n4:f4'.Nodup)
 (m4:∀c∈f4',c∈f4∨c∈G∨H.length≤c) (dG:∀c∈G,c∉dh fE f2 fL f4∧c≠b) (hl:H.length≤H'.length) (fr:∀c,c∉f4→c∉G→c≠b→c<H.length→H'[c]? = H[c]?):
 VO H' b { v with out:=l' } wE w2 wL w4' fE f2 fL f4':=by
 have lt:=o.lt;have bf:=o.bf;have key:∀c,c∈fE∨c∈f2∨c∈fL→H'[c]? = H[c]?∧c∉f4':=fun c hc=>by
  have hm:c∈dh fE f2 fL f4:=aO.2 (by rcases hc with q|q|q<;>simp[q]);have hE:c∉f4:=fun g=>by
   rcases hc with q|q|q
   ·exact o.dE4 c q g
   ·exact o.d24 c q g
   ·exact o.dL4 c q g
  have hG:c∉G:=fun g=>(dG c g).1 hm;refine⟨fr c hE hG (fun e=>bf (e▸hm)) (lt c hm),fun h=>?_⟩;rcases m4 c h with g|g|g
  ·exact hE g
  ·exact hG g
  ·have:=lt c hm;omega
 refine⟨hb,o.oE.frame fun c hc=>(key c (.inl hc)).1,o.o2.frame fun c hc=>(key c (.inr (.inl hc))).1,o.oL.frame fun c hc=>(key c (.inr (.inr hc))).1,o4,o.nE,o.n2,o.nL,n4,o.dE2,o.dEL,fun c h g=>(key c (.inl h)).2 g,o.d2L,fun c h g=>(key c (.inr (.inl h))).2 g,fun c h g=>(key c (.inr (.inr h))).2 g,o.bE,o.b2,o.bL,fun h=>?_⟩;rcases m4 b h with g|g|g
 ·exact o.b4 g
 ·exact(dG b g).2 rfl
 ·have:=o.blt;omega
theorem VO.up{v':ar}{wE' w2' wL' w4':AV}{fE' f2' fL' f4':List Nat}(o':VO H' b v' wE' w2' wL' w4' fE' f2' fL' f4')(hl:H.length≤H'.length){F:Nat→Prop}(m:∀c∈dh fE' f2' fL' f4',F c∨H.length≤c)(r:∀c,¬F c→c≠b→c<H.length→H'[c]? = H[c]?):e9 H b F H' v':=
 ⟨_,⟨_,_,_,_,_,_,_,_,rfl,o'⟩,hl,m,r⟩
theorem VO.at(o:VO H b v wE w2 wL w4 fE f2 fL f4):jr H b v (dh fE f2 fL f4):=⟨_,_,_,_,_,_,_,_,rfl,o⟩
theorem xB{cells:List AV}(hb:cF H b=some (0,cells)){i:Nat}{w:AV}(hi:i+1≤cells.length)(hw:bM w=true):∃H',(∀(e:List AV) (L:List (List AV)),(St.mk e L H).store (.gp b 0 i) [w]=some ⟨e,L,H'⟩)∧cF H' b=some (0,c8 cells i [w])∧H'.length=H.length∧∀c,c≠b→H'[c]? = H[c]?:=by
 obtain⟨H',s,m,l,r⟩:=(pj.nil hb).store (i:=i) (vs:=[w]) (by simpa using hi) (by simp only[je,jg,hw,Bool.and_self]);refine⟨H',fun e L=>by simpa using s e L,by simpa using m.eq,l,r⟩
end
end Go.AM
namespace Go.AM
theorem b9.yP{H:AH}{w:AV}{sz:Nat}{xs:List (List CD)}{fp:List Nat}(o:b9 H w (.sl sz xs) fp)(nd:fp.Nodup){k:Nat}(hk:k<xs.length):
 ∃b g pre row post f,fh sz w (k:Int)=some (.gp b g pre.length)∧pj H b g pre row post∧row.length=sz∧aM H row xs[k] f∧f.Nodup∧(∀c∈f,c∈fp)∧b∈fp∧b∉f∧
  ∀(H':AH) (row':List AV) (d':List CD) (f':List Nat),aM H' row' d' f'→f'.Nodup→d'.length=sz→(∀c∈f',c∈f∨c∉fp)→pj H' b g pre row' post→(∀c∈fp,c∉f→c≠b→H'[c]? = H[c]?)→
   ∃fp',b9 H' w (.sl sz (xs.set k d')) fp'∧fp'.Nodup∧(∀c∈fp',(c∈fp∧c∉f)∨c∈f'):=by
 rcases o.qZ with⟨rfl,e,rfl⟩|⟨b,g,cap,ex,az,tail,fp',rfl,rfl,hg,hsz,ht,hc,hown⟩
 ·subst e;simp at hk
 obtain⟨nb,nd'⟩:=Aar.1 nd;have hfl:∀d:List CD,(xs.set k d).flatten=(xs.take k).flatten++(d++(xs.drop (k+1)).flatten):=fun d=>by
  rw[←Aah,←Aal,List.set_eq_take_append_cons_drop,if_pos hk]
 have hf0:=hfl xs[k];rw[List.set_getElem_self]at hf0;rw[hf0]at hown;obtain⟨a1,a2,f1,f2,e1,e2,o1,o2⟩:=hown.split;obtain⟨a3,a4,f3,f4,e3,e4,o3,o4⟩:=o2.split;subst e1 e2 e3 e4;have l1:a1.length=k*sz:=by
  rw[o1.len];have:∀(ys:List (List CD)),(∀l∈ys,l.length=sz)→ys.flatten.length=ys.length*sz:=fun ys=>by
   induction ys with
   | nil=>intro _;simp
   | cons y ys ih=>intro h;rw[Aah,Aac,ih (fun l hl=>h l (by simp[hl])),h y (by simp),Aaw,Aai];omega
  rw[this _ (fun l hl=>hsz l (List.mem_of_mem_take hl)),Aau,Aaz (by omega)]
 have l3:a3.length=sz:=by rw[o3.len];exact hsz _ (List.getElem_mem hk)
 obtain⟨n1,n2,n3⟩:=Aaa.1 nd';obtain⟨n4,n5,n6⟩:=Aaa.1 n2;refine⟨b,g,a1,a3,a4++tail,f3,by have:=uW (b:=b) (g:=g) (off:=0) (len:=xs.length) (cap:=cap) (sz:=sz) (ex:=ex) hk;rwa[Aat,←l1]at this,⟨by rw[hg];simp⟩,l3,o3,n4,fun c hc=>by simp[hc],by simp,fun hb=>nb (by simp[hb]),?_⟩;intro H' row' d' f' o' nd2 hdl hf' hm fr;have hbf':b∉f':=fun hb=>by
  rcases hf' b hb with q|q
  ·exact nb (by simp[q])
  ·exact q (by simp)
 have d1:∀c∈f',c∉f1:=fun c hc h1=>by
  rcases hf' c hc with q|q
  ·exact n3 c h1 c (Aak _ q) rfl
  ·exact q (by simp[h1])
 have d4:∀c∈f',c∉f4:=fun c hc h1=>by
  rcases hf' c hc with q|q
  ·exact n6 c q c h1 rfl
  ·exact q (by simp[h1])
 have o1':=o1.frame (h':=H') fun c hc=>fr c (by simp[hc]) (fun h3=>n3 c hc c (Aak _ h3) rfl) (fun e=>nb (by rw[←e];simp[hc]));have o4':=o4.frame (h':=H') fun c hc=>fr c (by simp[hc]) (fun h3=>n6 c h3 c hc rfl) (fun e=>nb (by rw[←e];simp[hc]));refine⟨b::(f1++(f'++f4)),?_,Aar.2 ⟨?_,Aaa.2 ⟨n1,Aaa.2 ⟨nd2,n5,fun x hx y hy e=>d4 x hx (e▸hy)⟩,fun x hx y hy e=>?_⟩⟩,fun c hc=>?_⟩
 ·have:=b9.sl_mk (h:=H') (b:=b) (g:=g) (cap:=cap) (sz:=sz) (ex:=ex) (zas:=a1++(row'++a4)) (tail:=tail) (xs:=xs.set k d') (fp:=f1++(f'++f4))
   (by rw[hm.eq];simp) (fun y hy=>by
    rcases List.mem_or_eq_of_mem_set hy with g|g
    ·exact hsz y g
    ·rw[g,hdl]) ht (by simpa using hc) (by rw[hfl];exact o1'.append (o'.append o4'))
  simpa using this
 ·simp only[Aad,not_or];exact⟨fun h=>nb (by simp[h]),hbf',fun h=>nb (by simp[h])⟩
 ·subst e;rcases Aad.1 hy with q|q
  ·exact d1 x q hx
  ·exact n3 x hx x (List.mem_append_right _ q) rfl
 ·simp only[List.mem_cons,Aad]at hc ⊢;rcases hc with q|q|q|q
  ·exact .inl ⟨.inl q,fun h=>nb (by rw[←q];simp[h])⟩
  ·exact .inl ⟨.inr (.inl q),fun h=>n3 c q c (Aak _ h) rfl⟩
  ·exact .inr q
  ·exact .inl ⟨.inr (.inr (.inr q)),fun h=>n6 c h c q rfl⟩
theorem VO.jY{H:AH}{b:Nat}{v:ar}{wE w2 wL w4:AV}{fE f2 fL f4:List Nat}(o:VO H b v wE w2 wL w4 fE f2 fL f4){k:Nat}(hk:k<v.entities.length):∃bL gL n row f0,fh 12 wE (k:Int)=some (.gp bL gL n)∧(∀(e:List AV) (L:List (List AV)),(St.mk e L H).cells (.gp bL gL n) 12=some row)∧
 row.length=12∧aM H row v.entities[k].cd f0∧f0.Nodup∧(∀c∈f0,c∈fE)∧bL∈fE∧bL∉f0∧
 ∀(H4:AH) (i:Nat) (vs:List AV) (l':aA) (f' G:List Nat),H.length≤H4.length→(∀c∈G,c∉dh fE f2 fL f4∧c≠b)→(∀c,c<H.length→c∉f0→c∉G→H4[c]? = H[c]?)→i+vs.length≤12→vs.all bM=true→aM H4 (c8 row i vs) l'.cd f'→f'.Nodup→(∀c∈f',c∈f0∨c∈G∨H.length≤c)→
  (∀(e:List AV) (L:List (List AV)) (off m:Nat),(St.mk e L H4).cells (.gp bL gL (n+off)) m=sub row off m∨12<off+m)∧
  ∃H5 f5,(∀(e:List AV) (L:List (List AV)),(St.mk e L H4).store (.gp bL gL (n+i)) vs=some ⟨e,L,H5⟩)∧H5.length=H4.length∧(∀c,c≠bL→H5[c]? = H4[c]?)∧
   jr H5 b { v with entities:=v.entities.set k l' } f5∧(∀c∈f5,(c∈dh fE f2 fL f4∧c∉f0)∨c∈f'):=by
 have vlt:=o.lt;have bf:=o.bf;have blt:=o.blt;have hb:=o.hb;have hkm:k<(v.entities.map aA.cd).length:=by simpa using hk
 obtain⟨bL,gL,pre,rowL,post,fL0,iL,mL,lL,oLr,nLr,sLr,bmL,bnL,close⟩:=o.oE.yP o.nE hkm;rw[Aaf]at oLr;have hfE:∀c∈fE,c<H.length:=fun c hc=>vlt c (aO.2 (.inl hc));have hbq:=hfE bL bmL;refine⟨bL,gL,pre.length,rowL,fL0,iL,fun e L=>by rw[mL.sH e L 12 (by omega)];exact sA lL,lL,oLr,nLr,sLr,bmL,bnL,fun H4 i vs l' f' G hl dG fr hi hv o' n' b'=>?_⟩;have hbG:bL∉G:=fun h=>(dG bL h).1 (aO.2 (.inl bmL));have m4:pj H4 bL gL pre _ post:=mL.frame (fr bL hbq bnL hbG);obtain⟨H5,s5,m5,l5,r5⟩:=m4.store (i:=i) (vs:=vs) (by omega) hv;refine⟨fun e L off m=>?_,?_⟩
 ·by_cases ho:off+m≤12
  ·exact .inl (m4.cells e L off m (by omega))
  ·exact .inr (by omega)
 have nb:∀c∈f',c≠bL:=fun c hc e=>by
  rcases b' c hc with g|g|g
  ·exact bnL (e▸g)
  ·exact hbG (e▸g)
  ·omega
 have o5:=o'.frame (h':=H5) fun c hc=>r5 c (nb c hc);obtain⟨fL',oL5,nL5,mL5⟩:=close H5 _ l'.cd f' o5 n' rfl (fun c hc=>by
  rcases b' c hc with g|g|g
  ·exact .inl g
  ·exact .inr (fun h=>(dG c g).1 (aO.2 (.inl h)))
  ·exact .inr (fun h=>by have:=hfE c h;omega)) m5 (fun c hc hcf hcb=>by rw[r5 c hcb];exact fr c (hfE c hc) hcf (fun h=>(dG c h).1 (aO.2 (.inl hc))))
 have hb5:cF H5 b=some (0,[.int .i64 v.id,wE,w2,wL,w4]):=by
  rw[bc (r5 b (fun e=>bf (aO.2 (.inl (e▸bmL))))),bc (fr b blt (fun h=>bf (aO.2 (.inl (sLr b h)))) (fun h=>(dG b h).2 rfl))];exact hb
 rw[←Aam]at oL5;have u:=o.JZ (G:=G) hb5 oL5 nL5 (fun c hc=>by
  rcases mL5 c hc with g|g
  ·exact .inl g.1
  ·rcases b' c g with q|q|q
   ·exact .inl (sLr c q)
   ·exact .inr (.inl q)
   ·exact .inr (.inr q)) dG (by omega)
  (fun c h1 h2 h3 h4=>by rw[r5 c (fun e=>h1 (e▸bmL)),fr c h4 (fun h=>h1 (sLr c h)) h2])
 refine⟨H5,_,s5,l5,r5,u.at,fun c hc=>?_⟩;have out:∀c,c∈fL0→c∉f2∧c∉fL∧c∉f4:=fun c h=>⟨o.dE2 c (sLr c h),o.dEL c (sLr c h),o.dE4 c (sLr c h)⟩
 rcases aO.1 hc with g|g|g|g
 ·rcases mL5 c g with q|q
  ·exact .inl ⟨aO.2 (.inl q.1),q.2⟩
  ·exact .inr q
 ·exact .inl ⟨aO.2 (.inr (.inl g)),fun h=>(out c h).1 g⟩
 ·exact .inl ⟨aO.2 (.inr (.inr (.inl g))),fun h=>(out c h).2.1 g⟩
 ·exact .inl ⟨aO.2 (.inr (.inr (.inr g))),fun h=>(out c h).2.2 g⟩
theorem VO.frame{H H':AH}{b:Nat}{v:ar}{wE w2 wL w4:AV}{fE f2 fL f4:List Nat}(o:VO H b v wE w2 wL w4 fE f2 fL f4)(h:∀c,c∈dh fE f2 fL f4∨c=b→H'[c]? = H[c]?):VO H' b v wE w2 wL w4 fE f2 fL f4:=by
 refine⟨?_,o.oE.frame fun c hc=>h c (.inl (aO.2 (.inl hc))),o.o2.frame fun c hc=>h c (.inl (aO.2 (.inr (.inl hc)))),o.oL.frame fun c hc=>h c (.inl (aO.2 (.inr (.inr (.inl hc))))),o.o4.frame fun c hc=>h c (.inl (aO.2 (.inr (.inr (.inr hc))))),o.nE,o.n2,o.nL,o.n4,o.dE2,o.dEL,o.dE4,o.d2L,o.d24,o.dL4,o.bE,o.b2,o.bL,o.b4⟩;rw[bc (h b (.inr rfl))];exact o.hb
def Co(H:AH)(b:Nat)(wE w2 wL w4:AV)(fE f2 fL f4:List Nat)(H':AH)(v':ar):Prop:=
 ∃fL',VO H' b v' wE w2 wL w4 fE f2 fL' f4∧H.length≤H'.length∧(∀c∈fL',c∈fL∨H.length≤c)∧∀c,c∉fL→c<H.length→H'[c]? = H[c]?
theorem Co.refl{H:AH}{b:Nat}{v:ar}{wE w2 wL w4:AV}{fE f2 fL f4:List Nat}(o:VO H b v wE w2 wL w4 fE f2 fL f4):Co H b wE w2 wL w4 fE f2 fL f4 H v:=⟨fL,o,Aax _,fun c h=>.inl h,fun _ _ _=>rfl⟩
theorem VO.vq{H:AH}{b:Nat}{v:ar}{wE w2 wL w4:AV}{fE f2 fL f4:List Nat}(o:VO H b v wE w2 wL w4 fE f2 fL f4){k:Nat}(hk:k<v.aq.length):∃bL gL n row f0,fh 7 wL (k:Int)=some (.gp bL gL n)∧(∀(e:List AV) (L:List (List AV)),(St.mk e L H).cells (.gp bL gL n) 7=some row)∧
 aM H row v.aq[k].cd f0∧f0.Nodup∧(∀c∈f0,c∈fL)∧∀(H4:AH) (row':List AV) (l':aF) (f':List Nat),cQ H H4→aM H4 row' l'.cd f'→f'.Nodup→(∀c∈f',c∈f0∨H.length≤c)→
  ∃H5,(∀(e:List AV) (L:List (List AV)),(St.mk e L H4).store (.gp bL gL n) row'=some ⟨e,L,H5⟩)∧H5.length=H4.length∧(∀c,c∉fL→H5[c]? = H4[c]?)∧Co H b wE w2 wL w4 fE f2 fL f4 H5 { v with aq:=v.aq.set k l' }:=by
 have vlt:=o.lt;have bf:=o.bf;have blt:=o.blt;have hb:=o.hb;have hkm:k<(v.aq.map aF.cd).length:=by simpa using hk
 obtain⟨bL,gL,pre,rowL,post,fL0,iL,mL,lL,oLr,nLr,sLr,bmL,bnL,close⟩:=o.oL.sw o.nL hkm;rw[Aaf]at oLr;refine⟨bL,gL,pre.length,rowL,fL0,iL,fun e L=>by rw[mL.sH e L 7 (by omega)];exact sA lL,oLr,nLr,sLr,fun H4 row' l' f' eg o' n' b'=>?_⟩;have hfL:∀c∈fL,c<H.length:=fun c hc=>vlt c (aO.2 (.inr (.inr (.inl hc))));have hbq:=hfL bL bmL;have rl:row'.length=7:=by rw[o'.len];rfl
 have m4:pj H4 bL gL pre _ post:=mL.frame (eg.fr bL hbq);obtain⟨H5,s5,m5,l5,r5⟩:=m4.store (i:=0) (vs:=row') (by rw[rl,lL];exact Aax 7) o'.bM;rw[Nat.add_zero]at s5;have ov:c8 rowL 0 row'=row':=by simp[c8,rl,lL]
 rw[ov]at m5;have lx:=eg.len;have nb:∀c∈f',c≠bL:=fun c hc e=>by
  rcases b' c hc with g|g
  ·exact bnL (e▸g)
  ·omega
 have o5:=o'.frame (h':=H5) fun c hc=>r5 c (nb c hc);obtain⟨fL',oL5,nL5,mL5⟩:=close H5 _ l'.cd f' o5 n' rfl (fun c hc=>(b' c hc).imp id fun g hm=>by have:=hfL c hm;omega) m5 (fun c hc hcf hcb=>by rw[r5 c hcb];exact eg.fr c (hfL c hc));have hb5:cF H5 b=some (0,[.int .i64 v.id,wE,w2,wL,w4]):=by
  rw[bc (r5 b (fun e=>bf (aO.2 (.inr (.inr (.inl (e▸bmL))))))),bc (eg.fr b blt)];exact hb
 rw[←Aam]at oL5;have mf:∀c∈fL',c∈fL∨H.length≤c:=fun c hc=>by
  rcases mL5 c hc with g|g
  ·exact .inl g
  ·exact(b' c g).imp (sLr c) id
 have u:=o.Jw (G:=[]) hb5 oL5 nL5 (fun c hc=>(mf c hc).imp id .inr) (fun c hc=>by simp at hc) (by omega)
  (fun c h1 h2 h3 h4=>by rw[r5 c (fun e=>h1 (e▸bmL)),eg.fr c h4])
 exact⟨H5,s5,l5,fun c hc=>r5 c (fun e=>hc (e▸bmL)),fL',u,by omega,mf,fun c h1 h3=>by rw[r5 c (fun e=>h1 (e▸bmL)),eg.fr c h3]⟩
theorem aM.rows{H:AH}{sz:Nat}:∀{xs:List (List CD)} {az:List AV} {fp:List Nat},aM H az xs.flatten fp→(∀l∈xs,l.length=sz)→fp.Nodup→
 ∃fpr:Nat→List Nat,∀(j:Nat) (hj:j<xs.length),aM H ((az.drop (j*sz)).take sz) xs[j] (fpr j)∧(fpr j).Nodup∧(∀c∈fpr j,c∈fp)∧∀j',j'<xs.length→j'≠j→∀c∈fpr j,c∉fpr j'
 | [],_,_,_,_,_=>⟨fun _=>[],fun j hj=>by simp at hj⟩
 | x::xs,az,fp,o,hs,nd=>by
  rw[Aah]at o;obtain⟨a1,a2,f1,f2,rfl,rfl,o1,o2⟩:=o.split;obtain⟨n1,n2,n3⟩:=Aaa.1 nd;obtain⟨g,hg⟩:=aM.rows o2 (fun l hl=>hs l (by simp[hl])) n2;have la:a1.length=sz:=by rw[o1.len];exact hs x (by simp)
  refine⟨fun j=>match j with|0=>f1|j+1=>g j,fun j hj=>?_⟩;cases j with
  | zero=>
   refine⟨by simpa[←la]using o1,n1,fun c hc=>by simp[show c∈f1 from hc],fun j' h1 h2 c hc=>?_⟩;cases j' with
   | zero=>omega
   | succ j'=>exact fun h=>n3 c hc c ((hg j' (by simpa using h1)).2.2.1 c h) rfl
  | succ j=>
   obtain⟨k1,k2,k3,k4⟩:=hg j (by simpa using hj);refine⟨?_,k2,fun c hc=>by simp[k3 c hc],fun j' h1 h2 c hc=>?_⟩
   ·have e:(j+1)*sz=a1.length+j*sz:=by rw[la,Aai];omega
    rw[e,List.drop_append,List.drop_of_length_le (by omega),List.nil_append,Nat.add_sub_cancel_left];simpa using k1
   ·cases j' with
    | zero=>exact fun h=>n3 c h c (k3 c hc) rfl
    | succ j'=>exact k4 j' (by simpa using h1) (by omega) c hc
theorem b9.rows{H:AH}{w:AV}{sz:Nat}{xs:List (List CD)}{fp:List Nat}(o:b9 H w (.sl sz xs) fp)(nd:fp.Nodup):
 ∃(ptr:Nat→AV) (row:Nat→List AV) (fpr:Nat→List Nat) (qb:Nat),∀(j:Nat) (hj:j<xs.length),fh sz w (j:Int)=some (ptr j)∧(∀(H':AH) (e:List AV) (L:List (List AV)),H'[qb]? = H[qb]?→(St.mk e L H').cells (ptr j) sz=some (row j))∧
  aM H (row j) xs[j] (fpr j)∧(fpr j).Nodup∧(∀c∈fpr j,c∈fp∧c≠qb)∧qb∈fp∧∀j',j'<xs.length→j'≠j→∀c∈fpr j,c∉fpr j':=by
 rcases o.qZ with⟨rfl,e,rfl⟩|⟨b,g,cap,ex,az,tail,fp',rfl,rfl,hg,hsz,ht,hc,hown⟩
 ·subst e;exact⟨fun _=>.any,fun _=>[],fun _=>[],0,fun j hj=>by simp at hj⟩
 obtain⟨nb,nd'⟩:=Aar.1 nd;obtain⟨fpr,hf⟩:=hown.rows hsz nd';have lz:az.length=xs.length*sz:=by
  rw[hown.len];have:∀(ys:List (List CD)),(∀l∈ys,l.length=sz)→ys.flatten.length=ys.length*sz:=fun ys=>by
   induction ys with
   | nil=>intro _;simp
   | cons y ys ih=>intro h;rw[Aah,Aac,ih (fun l hl=>h l (by simp[hl])),h y (by simp),Aaw,Aai];omega
  exact this _ hsz
 refine⟨fun j=>.gp b g (j*sz),fun j=>(az.drop (j*sz)).take sz,fpr,b,fun j hj=>?_⟩;obtain⟨k1,k2,k3,k4⟩:=hf j hj;refine⟨by have:=uW (b:=b) (g:=g) (off:=0) (len:=xs.length) (cap:=cap) (sz:=sz) (ex:=ex) hj;rwa[Aat]at this,fun H' e L hb=>?_,k1,k2,fun c hc=>⟨by simp[k3 c hc],fun e=>nb (e▸k3 c hc)⟩,by simp,k4⟩;have hg':cF H' b=some (g,az++tail):=by rw[bc hb];exact hg
 have hle:j*sz+sz≤az.length:=by rw[lz];calc j*sz+sz=(j+1)*sz:=by rw[Aai];omega
  _≤xs.length*sz:=Aae _ hj
 rw[b8 hg',sub,if_pos (by rw[Aac];omega),Aab (by omega),Aaj (by rw[Aao];omega)]
end Go.AM
namespace Go.AM
def JE(os:List O)(af:List (List Nat)):Nat→List Bool→D→Bool
 | _,done,.done=>(gH os af done).isEmpty
 | n+1,done,.q i d=>(gH os af done).contains i && ((quietAt os i && BA os af done i) || (gH os af done == [i] && xt os af done i)) && JE os af n (done.set i true) d
 | n+1,done,.st i rs d=>gH os af done == [i] && (DM os af done i == some rs) && JE os af n (done.set i true) d
 | n+1,done,.all ds=>!(gH os af done).isEmpty && (gH os af done == ds.map fun x=>x.1) && ds.all fun x=>JE os af n (done.set x.1 true) x.2
 | n+1,done,.mix ds=>!(gH os af done).isEmpty && (gH os af done == ds.map fun x=>x.1) && ds.all fun x=>
  (match x.2.1 with|none=>true|some rs=>(xt os af done x.1 && rs == []) || (yS os af done x.1 == some rs)) && JE os af n (done.set x.1 true) x.2.2
 | 0,_,_=>false
section
variable {P:Program} {Θ:ub} {Γ:bG}
theorem I6{gl:Gl}{os:List O}{af:List (List Nat)}{K:St→Prop}:∀(fuel:Nat) (done:List Bool) (d:D) (s:St),sq af done→JE os af fuel done d=true→fy P Γ gl os K fuel d s→xE P Γ gl os af K fuel done s:=by
 intro fuel
 induction fuel with
 | zero=>
  intro done d s hc hs h;cases d<;>simp only[JE]at hs<;>first|cases hs|skip
  exact⟨by simpa using hs,h⟩
 | succ fuel ih=>
  intro done d s hc hs h;cases d with
  | done=>
   simp only[JE]at hs;have he:gH os af done=[]:=by simpa using hs
   exact⟨fun _=>h,by rw[he];simp⟩
  | q i d=>
   simp only[JE,Aag,AaA,beq_iff_eq,List.contains_iff_mem]at hs;obtain⟨⟨hr,hp⟩,hd⟩:=hs;simp only[fy]at h;rcases hp with⟨h1,h2⟩|⟨h1,h2⟩
   ·obtain⟨o,v,ho,hv,hk⟩:=Ir h1 h;exact xH ho (by simpa[quietAt,ho]using h1) fuel done s hc h2 hr hv (ih _ d _ (jV hc (gA.1 hr).2.2) hd hk)
   ·refine⟨fun hn=>by rw[hn]at hr;simp at hr,fun j hj=>?_⟩;have hji:j=i:=by rw[h1]at hj;simpa using hj
    subst hji;exact kI (fun s' hs=>⟨.inl h2,ih _ _ s' (jV hc (gA.1 hr).2.2) hd hs⟩) h
  | st i rs d=>
   simp only[JE,Aag,beq_iff_eq]at hs;obtain⟨⟨h1,hrs⟩,hd⟩:=hs;simp only[fy]at h;refine⟨fun hn=>by rw[hn]at h1;simp at h1,fun j hj=>?_⟩;have hji:j=i:=by rw[h1]at hj;simpa using hj
   subst hji;exact kI (fun s' hs=>⟨.inr (.inr (Hw hrs hs.1)),ih _ _ s' (jV hc (gA.1 hj).2.2) hd hs.2⟩) h
  | all ds=>
   simp only[JE,Aag,beq_iff_eq,Aap]at hs;obtain⟨⟨he,h1⟩,hd⟩:=hs;simp only[fy]at h;refine⟨fun hn=>by rw[hn]at he;simp at he,fun i hi=>?_⟩;have hi':=hi;rw[h1]at hi';obtain⟨⟨j,d⟩,hm,rfl⟩:=Aaq.1 hi';exact kI (fun s' hs=>⟨.inr (.inl hs.1),ih _ _ s' (jV hc (gA.1 hi).2.2) (hd _ hm) hs.2⟩) (zB h _ _ hm)
  | mix ds=>
   simp only[JE,Aag,beq_iff_eq,Aap]at hs;obtain⟨⟨he,h1⟩,hd⟩:=hs;simp only[fy]at h;refine⟨fun hn=>by rw[hn]at he;simp at he,fun i hi=>?_⟩;have hi':=hi;rw[h1]at hi';obtain⟨⟨j,b,d⟩,hm,rfl⟩:=Aaq.1 hi';obtain⟨hb,hd⟩:=hd _ hm;refine kI (fun s' hs=>⟨?_,ih _ _ s' (jV hc (gA.1 hi).2.2) hd hs.2⟩) (zJ h _ _ _ hm);cases b with
   | none=>exact .inr (.inl hs.1)
   | some rs=>
    simp only[AaA,Aag,beq_iff_eq]at hb;rcases hb with⟨hb,_⟩|hb
    ·exact .inl hb
    ·exact .inr (.inr (Fy hb hs.1))
theorem JG(tab:iO P Θ)(hm:P.follows .mixedOrders=true){gl:Gl}{os:List O}{af:List (List Nat)}{Q:AE→St→Prop}{s:St}(d:D)(hd:JE os af os.length (List.replicate os.length false) d=true)
 (h:fy P Γ gl os (Q .normal) os.length d s):yl P Θ Γ gl (.regD os af) Q s:=
 D9 tab hm gl (I6 _ _ d s (xD _ _) hd h)
theorem HB(tab:iO P Θ)(hm:P.follows .mixedOrders=true){gl:Gl}{a b:C}{Q:AE→St→Prop}{s:St}(h:aw P Θ Γ gl a (nt (yl P Θ Γ gl b Q) Q) s):yl P Θ Γ gl (.seq a b) Q s:=zq tab hm gl a _ s h
theorem Lr(tab:iO P Θ)(hm:P.follows .mixedOrders=true){gl:Gl}{a b:C}{i:Nat}{Q:AE→St→Prop}{s:St}(h:yl P Θ Γ gl a (pT i (nt (aw P Θ Γ gl b Q) Q)) s):yl P Θ Γ gl (.seq (.block i a) b) Q s:=by
 refine tu (.block i a) s (fun e s he=>?_) (show yl P Θ Γ gl (.block i a) (nt (aw P Θ Γ gl b Q) Q) s from h);cases e<;>simp only[nt]at he ⊢
 ·exact zq tab hm gl _ _ _ he
 ·exact he
 ·exact he
theorem FI(R:St→Prop){gl:Gl}{a b:C}{Q:AE→St→Prop}{s:St}(h1:yl P Θ Γ gl a (GQ R Q) s)(h2:∀s',R s'→yl P Θ Γ gl b Q s'):yl P Θ Γ gl (.seq a b) Q s:=
 tu a s (fun e s he=>by cases e<;>first|exact h2 s he|exact he) h1
theorem Ma(tab:iO P Θ)(hm:P.follows .mixedOrders=true)(R:St→Prop){gl:Gl}{a b:C}{Q:AE→St→Prop}{s:St}(h1:aw P Θ Γ gl a (GQ R Q) s)(h2:∀s',R s'→yl P Θ Γ gl b Q s'):yl P Θ Γ gl (.seq a b) Q s:=
 FI R (zq tab hm gl a _ s h1) h2
theorem Lh{e e':List AV}{L X Y:List (List AV)}{h:AH}:Mem ⟨e,L++X,h⟩ ⟨e',L++(X++Y),h⟩:=by
 rw[←Aas];exact Mem.loc ⟨_,L++X,_⟩ _ _
theorem lG{rs:List Nat}{e e':List AV}{L:List (List AV)}{h h':AH}(hx:∀r∈rs,(∃i off,e.getD r .any=.lp i off)∨(∃c g off,e.getD r .any=.gp c g off∧h'[c]? = h[c]?)):jB rs ⟨e,L,h⟩ ⟨e',L,h'⟩:=by
 intro r hr n cs hc;rcases hx r hr with⟨i,off,he⟩|⟨c,g,off,he,hh⟩
 ·simp only[he]at hc ⊢;simpa only[St.cells]using hc
 ·simp only[he]at hc ⊢;simp only[St.cells]at hc ⊢;rw[show cF h' c=cF h c by unfold cF;rw[hh]];exact hc
theorem WT(tab:iO P Θ)(gl:Gl){c:C}{Q:AE→St→Prop}{s:St}{α:Type}(I:α→Prop)(μ:α→Nat)(st:α→St)(x:α)(hx:I x)(hs:Le s (st x))
 (round:∀x,I x→yl P Θ Γ gl c (nt (fun s'=>∃y,I y∧μ y<μ x∧Le s' (st y)) Q) (st x)):TC P Θ Γ (.loop c) Q s:=by
 refine TC.le hs (DF tab gl (fun y:{ y // I y }=>μ y.1) (fun y=>st y.1) (fun y=>tu _ _ ?_ (round y.1 y.2)) ⟨x,hx⟩);intro e s h;cases e<;>simp only[nt]at h ⊢
 ·obtain⟨y,h1,h2,h3⟩:=h;exact⟨⟨y,h1⟩,h2,h3⟩
 ·exact h
 ·exact h
end
end Go.AM
namespace Go.AM
def LL(c0 row:List AV)(X:List (List AV)):List (List AV):=c0::row::X
theorem fY(c0 row:List AV)(X:List (List AV)):(LL c0 row X).length=X.length+2:=rfl
theorem LD(c0 row:List AV)(X Y:List (List AV)):LL c0 row X++Y=LL c0 row (X++Y):=rfl
section
variable {e:List AV} {h:AH} {c0 row:List AV} {X Y:List (List AV)}
theorem gj(off n:Nat):(St.mk e (LL c0 row X) h).cells (.lp (([]:List (List AV)).length) off) n=sub c0 off n:=rfl
theorem cg(off n:Nat):(St.mk e (LL c0 row X) h).cells (.lp (([]:List (List AV)).length+1) off) n=sub row off n:=rfl
theorem Lw(off n:Nat):(St.mk e (LL c0 row X++Y) h).cells (.lp (([]:List (List AV)).length) off) n=sub c0 off n:=rfl
theorem gz(off n:Nat):(St.mk e (LL c0 row X++Y) h).cells (.lp (([]:List (List AV)).length+1) off) n=sub row off n:=rfl
theorem kD(z:List AV)(off n:Nat):(St.mk e (LL c0 row X++z::Y) h).cells (.lp (X.length+2) off) n=sub z off n:=by
 simp[St.cells,LL]
theorem mh(z z2:List AV)(off n:Nat):(St.mk e (LL c0 row X++z::z2::Y) h).cells (.lp (X.length+2+1) off) n=sub z2 off n:=by
 simp[St.cells,LL]
theorem BJ{off:Nat}{vs:List AV}(h1:off+vs.length≤c0.length)(h2:vs.all cn=true):(St.mk e (LL c0 row X) h).store (.lp (([]:List (List AV)).length) off) vs=some ⟨e,LL (c8 c0 off vs) row X,h⟩:=by
 simp[St.store,LL,h1,h2]
theorem Ho{off:Nat}{vs:List AV}(h1:off+vs.length≤row.length)(h2:vs.all cn=true):(St.mk e (LL c0 row X) h).store (.lp (([]:List (List AV)).length+1) off) vs=some ⟨e,LL c0 (c8 row off vs) X,h⟩:=by
 simp[St.store,LL,h1,h2]
theorem Es{off:Nat}{vs:List AV}(h1:off+vs.length≤row.length)(h2:vs.all cn=true):(St.mk e (LL c0 row X++Y) h).store (.lp (([]:List (List AV)).length+1) off) vs=some ⟨e,LL c0 (c8 row off vs) X++Y,h⟩:=by
 rw[LD,Ho h1 h2,LD]
theorem uP{z:List AV}{off:Nat}{vs:List AV}(h1:off+vs.length≤z.length)(h2:vs.all cn=true):(St.mk e (LL c0 row X++z::Y) h).store (.lp (X.length+2) off) vs=some ⟨e,LL c0 row X++c8 z off vs::Y,h⟩:=by
 simp[St.store,LL,h1,h2]
theorem Ea{z z2:List AV}{off:Nat}{vs:List AV}(h1:off+vs.length≤z2.length)(h2:vs.all cn=true):(St.mk e (LL c0 row X++z::z2::Y) h).store (.lp (X.length+2+1) off) vs=some ⟨e,LL c0 row X++z::c8 z2 off vs::Y,h⟩:=by
 simp[St.store,LL,h1,h2]
end
end Go.AM
namespace Go.AM
theorem VO.ph{H:AH}{b:Nat}{v:ar}{wE w2 wL w4:AV}{fE f2 fL f4:List Nat}(o:VO H b v wE w2 wL w4 fE f2 fL f4){k:Nat}(hk:k<v.entities.length):∃bL gL pre row post f0,fh 12 wE (k:Int)=some (.gp bL gL (pre:List AV).length)∧pj H bL gL pre row post∧
 row.length=12∧aM H row v.entities[k].cd f0∧f0.Nodup∧(∀c∈f0,c∈fE)∧bL∈fE∧bL∉f0∧
 ∀(H5:AH) (row':List AV) (l':aA) (f' G:List Nat),H.length≤H5.length→(∀c∈G,c∉dh fE f2 fL f4∧c≠b)→pj H5 bL gL pre row' post→aM H5 row' l'.cd f'→f'.Nodup→(∀c∈f',c∈f0∨c∈G∨H.length≤c)→(∀c,c<H.length→c∉f0→c∉G→c≠bL→H5[c]? = H[c]?)→
  ∃fE',VO H5 b { v with entities:=v.entities.set k l' } wE w2 wL w4 fE' f2 fL f4∧(∀c∈fE',(c∈fE∧c∉f0)∨c∈f'):=by
 have vlt:=o.lt;have bf:=o.bf;have blt:=o.blt;have hb:=o.hb;have hkm:k<(v.entities.map aA.cd).length:=by simpa using hk
 obtain⟨bL,gL,pre,rowL,post,fL0,iL,mL,lL,oLr,nLr,sLr,bmL,bnL,close⟩:=o.oE.yP o.nE hkm;rw[Aaf]at oLr;have hfE:∀c∈fE,c<H.length:=fun c hc=>vlt c (aO.2 (.inl hc));refine⟨bL,gL,pre,rowL,post,fL0,iL,mL,lL,oLr,nLr,sLr,bmL,bnL,fun H5 row' l' f' G hl dG m5 o' n' b' fr=>?_⟩;obtain⟨fL',oL5,nL5,mL5⟩:=close H5 _ l'.cd f' o' n' rfl (fun c hc=>by
  rcases b' c hc with g|g|g
  ·exact .inl g
  ·exact .inr (fun h=>(dG c g).1 (aO.2 (.inl h)))
  ·exact .inr (fun h=>by have:=hfE c h;omega)) m5 (fun c hc hcf hcb=>fr c (hfE c hc) hcf (fun h=>(dG c h).1 (aO.2 (.inl hc))) hcb)
 have hb5:cF H5 b=some (0,[.int .i64 v.id,wE,w2,wL,w4]):=by
  rw[bc (fr b blt (fun h=>bf (aO.2 (.inl (sLr b h)))) (fun h=>(dG b h).2 rfl) (fun e=>bf (aO.2 (.inl (e▸bmL)))))];exact hb
 rw[←Aam]at oL5;have u:=o.JZ (G:=G) hb5 oL5 nL5 (fun c hc=>by
  rcases mL5 c hc with g|g
  ·exact .inl g.1
  ·rcases b' c g with q|q|q
   ·exact .inl (sLr c q)
   ·exact .inr (.inl q)
   ·exact .inr (.inr q)) dG hl
  (fun c h1 h2 h3 h4=>fr c h4 (fun h=>h1 (sLr c h)) h2 (fun e=>h1 (e▸bmL)))
 exact⟨_,u,mL5⟩
theorem pj.put{H:AH}{b g:Nat}{pre row post:List AV}(m:pj H b g pre row post)(i:Nat)(vs:List AV)(hi:i+vs.length≤row.length)(hv:vs.all bM=true):
 ∃H',(∀(e:List AV) (L:List (List AV)),(St.mk e L H).store (.gp b g (pre.length+i)) vs=some ⟨e,L,H'⟩)∧pj H' b g pre (c8 row i vs) post∧H'.length=H.length∧∀c,c≠b→H'[c]? = H[c]?:=m.store hi hv
end Go.AM
namespace Go.AM
theorem VO.tM{H:AH}{b:Nat}{v:ar}{wE w2 wL w4:AV}{fE f2 fL f4:List Nat}(o:VO H b v wE w2 wL w4 fE f2 fL f4){k:Nat}(hk:k<v.aq.length):∃bL gL n row f0,fh 7 wL (k:Int)=some (.gp bL gL n)∧(∀(e:List AV) (L:List (List AV)),(St.mk e L H).cells (.gp bL gL n) 7=some row)∧
 row.length=7∧aM H row v.aq[k].cd f0∧f0.Nodup∧(∀c∈f0,c∈fL)∧bL∈fL∧bL∉f0∧
 ∀(H4:AH) (i:Nat) (vs:List AV) (l':aF) (f' G:List Nat),H.length≤H4.length→(∀c∈G,c∉dh fE f2 fL f4∧c≠b)→(∀c,c<H.length→c∉f0→c∉G→H4[c]? = H[c]?)→i+vs.length≤7→vs.all bM=true→aM H4 (c8 row i vs) l'.cd f'→f'.Nodup→(∀c∈f',c∈f0∨c∈G∨H.length≤c)→
  (∀(e:List AV) (L:List (List AV)) (off m:Nat),(St.mk e L H4).cells (.gp bL gL (n+off)) m=sub row off m∨7<off+m)∧
  ∃H5 f5,(∀(e:List AV) (L:List (List AV)),(St.mk e L H4).store (.gp bL gL (n+i)) vs=some ⟨e,L,H5⟩)∧H5.length=H4.length∧(∀c,c≠bL→H5[c]? = H4[c]?)∧
   jr H5 b { v with aq:=v.aq.set k l' } f5∧(∀c∈f5,(c∈dh fE f2 fL f4∧c∉f0)∨c∈f'):=by
 have vlt:=o.lt;have bf:=o.bf;have blt:=o.blt;have hb:=o.hb;have hkm:k<(v.aq.map aF.cd).length:=by simpa using hk
 obtain⟨bL,gL,pre,rowL,post,fL0,iL,mL,lL,oLr,nLr,sLr,bmL,bnL,close⟩:=o.oL.yP o.nL hkm;rw[Aaf]at oLr;have hfE:∀c∈fL,c<H.length:=fun c hc=>vlt c (aO.2 (.inr (.inr (.inl hc))));have hbq:=hfE bL bmL;refine⟨bL,gL,pre.length,rowL,fL0,iL,fun e L=>by rw[mL.sH e L 7 (by omega)];exact sA lL,lL,oLr,nLr,sLr,bmL,bnL,fun H4 i vs l' f' G hl dG fr hi hv o' n' b'=>?_⟩;have hbG:bL∉G:=fun h=>(dG bL h).1 (aO.2 (.inr (.inr (.inl bmL))));have m4:pj H4 bL gL pre _ post:=mL.frame (fr bL hbq bnL hbG);obtain⟨H5,s5,m5,l5,r5⟩:=m4.store (i:=i) (vs:=vs) (by omega) hv;refine⟨fun e L off m=>?_,?_⟩
 ·by_cases ho:off+m≤7
  ·exact .inl (m4.cells e L off m (by omega))
  ·exact .inr (by omega)
 have nb:∀c∈f',c≠bL:=fun c hc e=>by
  rcases b' c hc with g|g|g
  ·exact bnL (e▸g)
  ·exact hbG (e▸g)
  ·omega
 have o5:=o'.frame (h':=H5) fun c hc=>r5 c (nb c hc);obtain⟨fL',oL5,nL5,mL5⟩:=close H5 _ l'.cd f' o5 n' rfl (fun c hc=>by
  rcases b' c hc with g|g|g
  ·exact .inl g
  ·exact .inr (fun h=>(dG c g).1 (aO.2 (.inr (.inr (.inl h)))))
  ·exact .inr (fun h=>by have:=hfE c h;omega)) m5 (fun c hc hcf hcb=>by rw[r5 c hcb];exact fr c (hfE c hc) hcf (fun h=>(dG c h).1 (aO.2 (.inr (.inr (.inl hc))))))
 have hb5:cF H5 b=some (0,[.int .i64 v.id,wE,w2,wL,w4]):=by
  rw[bc (r5 b (fun e=>bf (aO.2 (.inr (.inr (.inl (e▸bmL))))))),bc (fr b blt (fun h=>bf (aO.2 (.inr (.inr (.inl (sLr b h)))))) (fun h=>(dG b h).2 rfl))];exact hb
 rw[←Aam]at oL5;have u:=o.Jw (G:=G) hb5 oL5 nL5 (fun c hc=>by
  rcases mL5 c hc with g|g
  ·exact .inl g.1
  ·rcases b' c g with q|q|q
   ·exact .inl (sLr c q)
   ·exact .inr (.inl q)
   ·exact .inr (.inr q)) dG (by omega)
  (fun c h1 h2 h3 h4=>by rw[r5 c (fun e=>h1 (e▸bmL)),fr c h4 (fun h=>h1 (sLr c h)) h2])
 refine⟨H5,_,s5,l5,r5,u.at,fun c hc=>?_⟩;have out:∀c,c∈fL0→c∉fE∧c∉f2∧c∉f4:=fun c h=>⟨fun g=>o.dEL c g (sLr c h),fun g=>o.d2L c g (sLr c h),o.dL4 c (sLr c h)⟩
 rcases aO.1 hc with g|g|g|g
 ·exact .inl ⟨aO.2 (.inl g),fun h=>(out c h).1 g⟩
 ·exact .inl ⟨aO.2 (.inr (.inl g)),fun h=>(out c h).2.1 g⟩
 ·rcases mL5 c g with q|q
  ·exact .inl ⟨aO.2 (.inr (.inr (.inl q.1))),q.2⟩
  ·exact .inr q
 ·exact .inl ⟨aO.2 (.inr (.inr (.inr g))),fun h=>(out c h).2.2 g⟩
end Go.AM
namespace Go.AM
theorem VO.rU{H:AH}{b:Nat}{v:ar}{wE w2 wL w4:AV}{fE f2 fL f4:List Nat}(o:VO H b v wE w2 wL w4 fE f2 fL f4){k:Nat}(hk:k<v.aq.length):∃bL gL pre row post f0,fh 7 wL (k:Int)=some (.gp bL gL (pre:List AV).length)∧pj H bL gL pre row post∧
 row.length=7∧aM H row v.aq[k].cd f0∧f0.Nodup∧(∀c∈f0,c∈fL)∧bL∈fL∧bL∉f0∧
 ∀(H5:AH) (row':List AV) (l':aF) (f' G:List Nat),H.length≤H5.length→(∀c∈G,c∉dh fE f2 fL f4∧c≠b)→pj H5 bL gL pre row' post→aM H5 row' l'.cd f'→f'.Nodup→(∀c∈f',c∈f0∨c∈G∨H.length≤c)→(∀c,c<H.length→c∉f0→c∉G→c≠bL→H5[c]? = H[c]?)→
  ∃fL',VO H5 b { v with aq:=v.aq.set k l' } wE w2 wL w4 fE f2 fL' f4∧(∀c∈fL',(c∈fL∧c∉f0)∨c∈f'):=by
 have vlt:=o.lt;have bf:=o.bf;have blt:=o.blt;have hb:=o.hb;have hkm:k<(v.aq.map aF.cd).length:=by simpa using hk
 obtain⟨bL,gL,pre,rowL,post,fL0,iL,mL,lL,oLr,nLr,sLr,bmL,bnL,close⟩:=o.oL.yP o.nL hkm;rw[Aaf]at oLr;have hfE:∀c∈fL,c<H.length:=fun c hc=>vlt c (aO.2 (.inr (.inr (.inl hc))));refine⟨bL,gL,pre,rowL,post,fL0,iL,mL,lL,oLr,nLr,sLr,bmL,bnL,fun H5 row' l' f' G hl dG m5 o' n' b' fr=>?_⟩;obtain⟨fL',oL5,nL5,mL5⟩:=close H5 _ l'.cd f' o' n' rfl (fun c hc=>by
  rcases b' c hc with g|g|g
  ·exact .inl g
  ·exact .inr (fun h=>(dG c g).1 (aO.2 (.inr (.inr (.inl h)))))
  ·exact .inr (fun h=>by have:=hfE c h;omega)) m5 (fun c hc hcf hcb=>fr c (hfE c hc) hcf (fun h=>(dG c h).1 (aO.2 (.inr (.inr (.inl hc))))) hcb)
 have hb5:cF H5 b=some (0,[.int .i64 v.id,wE,w2,wL,w4]):=by
  rw[bc (fr b blt (fun h=>bf (aO.2 (.inr (.inr (.inl (sLr b h)))))) (fun h=>(dG b h).2 rfl) (fun e=>bf (aO.2 (.inr (.inr (.inl (e▸bmL)))))))];exact hb
 rw[←Aam]at oL5;have u:=o.Jw (G:=G) hb5 oL5 nL5 (fun c hc=>by
  rcases mL5 c hc with g|g
  ·exact .inl g.1
  ·rcases b' c g with q|q|q
   ·exact .inl (sLr c q)
   ·exact .inr (.inl q)
   ·exact .inr (.inr q)) dG hl
  (fun c h1 h2 h3 h4=>fr c h4 (fun h=>h1 (sLr c h)) h2 (fun e=>h1 (e▸bmL)))
 exact⟨_,u,mL5⟩
end Go.AM
namespace Go.AM
variable {P:Program} {Γ:bG}
theorem al.Ys{ι:Type}{C:ι→Prop}{f:FuncId}{args args':List AV}{s:St}{rs:ι→List RD}{K:AV→St→Prop}(ho:args.all gq=true)(hs:uy s.heap args args')
 (t:∀h,T P Γ f args' h fun v h'=>∃i,C i∧aX h (rs i) v h') (hk:∀i,C i→∀v h',aX s.heap (rs i) v h'→K v { s with heap:=h' }):al P Γ f args s K:=by
 refine al.snap ho hs (t _) ?_;rintro v h' ⟨i,hC,vs,new,fp,rfl,rfl,o,nd,hb,hd⟩;have hlr:(List.replicate s.heap.length (none:Option (Nat×List AV))).length=s.heap.length:=by simp
 have same:∀b,s.heap.length≤b→(s.heap++new)[b]? = (List.replicate s.heap.length none++new)[b]?:=fun b hb=>by
  rw[Aan hb,Aan (by rw[hlr];exact hb),hlr]
 rw[hlr]at hb hd;have o':kZ (s.heap++new) vs (rs i) fp:=o.frame fun b hm=>same b (hb b hm);have hd':∀b,s.heap.length≤b→b<(s.heap++new).length→b∉fp→(s.heap++new)[b]? = some none:=fun b h1 h2 h3=>by
  rw[same b h1];exact hd b h1 (by simp at h2 ⊢;omega) h3
 exact⟨new,rfl,Fv (o.nb hb),aX.Kq o' hb hd',hk i hC _ _ ⟨vs,new,fp,rfl,rfl,o',nd,hb,hd'⟩⟩
end Go.AM
