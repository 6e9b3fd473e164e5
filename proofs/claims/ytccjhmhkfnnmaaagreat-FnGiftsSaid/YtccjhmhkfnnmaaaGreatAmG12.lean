import Derived.Test.YtccjhmhkfnnmaaaGreatAmG10
import Derived.Test.YtccjhmhkfnnmaaaGreatAmG6
import Derived.Test.YtccjhmhkfnnmaaaGreatAmG8
set_option linter.unusedVariables false
set_option linter.unusedSimpArgs false
namespace Go.AM
def Fp(os:List O)(af:List (List Nat)):Nat→List Bool→D→Bool
  | _,done,.done=>(dJ os af done).isEmpty
  | n+1,done,.q i d=>(dJ os af done).contains i && ((pr os i && vz os af done i) || (dJ os af done == [i] && pU os af done i)) && Fp os af n (done.set i true) d
  | n+1,done,.st i rs d=>dJ os af done == [i] && (Ba os af done i == some rs) && Fp os af n (done.set i true) d
  | n+1,done,.all ds=>!(dJ os af done).isEmpty && (dJ os af done == ds.map fun x=>x.1) && ds.all fun x=>Fp os af n (done.set x.1 true) x.2
  | n+1,done,.mix ds=>!(dJ os af done).isEmpty && (dJ os af done == ds.map fun x=>x.1) && ds.all fun x=>
      (match x.2.1 with|none=>true|some rs=>(pU os af done x.1 && rs == []) || (qS os af done x.1 == some rs)) && Fp os af n (done.set x.1 true) x.2.2
  | 0,_,_=>false
section
variable {P:Program} {Θ:mQ} {Γ:cj}
theorem Fe{gl:Gl}{os:List O}{af:List (List Nat)}{K:St→Prop}:∀(fuel:Nat) (done:List Bool) (d:D) (s:St),kH af done→Fp os af fuel done d=true→bH P Γ gl os K fuel d s→qk P Γ gl os af K fuel done s:=by
  intro fuel
  induction fuel with
  | zero=>
    intro done d s hc hs h
    cases d<;>simp only[Fp]at hs<;>first|cases hs|skip
    exact⟨by simpa using hs,h⟩
  | succ fuel ih=>
    intro done d s hc hs h
    cases d with
    | done=>
      simp only[Fp]at hs
      have he:dJ os af done=[]:=by simpa using hs
      exact⟨fun _=>h,by rw[he];simp⟩
    | q i d=>
      simp only[Fp,Bool.and_eq_true,Bool.or_eq_true,beq_iff_eq,List.contains_iff_mem]at hs
      obtain⟨⟨hr,hp⟩,hd⟩:=hs
      simp only[bH]at h
      rcases hp with⟨h1,h2⟩|⟨h1,h2⟩
      · obtain⟨o,v,ho,hv,hk⟩:=DS h1 h
        exact qz ho (by simpa[pr,ho]using h1) fuel done s hc h2 hr hv (ih _ d _ (fJ hc (dC.1 hr).2.2) hd hk)
      · refine⟨fun hn=>by rw[hn]at hr;simp at hr,fun j hj=>?_⟩
        have hji:j=i:=by rw[h1]at hj;simpa using hj
        subst hji
        exact gM (fun s' hs=>⟨.inl h2,ih _ _ s' (fJ hc (dC.1 hr).2.2) hd hs⟩) h
    | st i rs d=>
      simp only[Fp,Bool.and_eq_true,beq_iff_eq]at hs
      obtain⟨⟨h1,hrs⟩,hd⟩:=hs
      simp only[bH]at h
      refine⟨fun hn=>by rw[hn]at h1;simp at h1,fun j hj=>?_⟩
      have hji:j=i:=by rw[h1]at hj;simpa using hj
      subst hji
      exact gM (fun s' hs=>⟨.inr (.inr (D9 hrs hs.1)),ih _ _ s' (fJ hc (dC.1 hj).2.2) hd hs.2⟩) h
    | all ds=>
      simp only[Fp,Bool.and_eq_true,beq_iff_eq,List.all_eq_true]at hs
      obtain⟨⟨he,h1⟩,hd⟩:=hs
      simp only[bH]at h
      refine⟨fun hn=>by rw[hn]at he;simp at he,fun i hi=>?_⟩
      have hi':=hi
      rw[h1]at hi'
      obtain⟨⟨j,d⟩,hm,rfl⟩:=List.mem_map.1 hi'
      exact gM (fun s' hs=>⟨.inr (.inl hs.1),ih _ _ s' (fJ hc (dC.1 hi).2.2) (hd _ hm) hs.2⟩) (sk h _ _ hm)
    | mix ds=>
      simp only[Fp,Bool.and_eq_true,beq_iff_eq,List.all_eq_true]at hs
      obtain⟨⟨he,h1⟩,hd⟩:=hs
      simp only[bH]at h
      refine⟨fun hn=>by rw[hn]at he;simp at he,fun i hi=>?_⟩
      have hi':=hi
      rw[h1]at hi'
      obtain⟨⟨j,b,d⟩,hm,rfl⟩:=List.mem_map.1 hi'
      obtain⟨hb,hd⟩:=hd _ hm
      refine gM (fun s' hs=>⟨?_,ih _ _ s' (fJ hc (dC.1 hi).2.2) hd hs.2⟩) (sh h _ _ _ hm)
      cases b with
      | none=>exact .inr (.inl hs.1)
      | some rs=>
        simp only[Bool.or_eq_true,Bool.and_eq_true,beq_iff_eq]at hb
        rcases hb with⟨hb,_⟩|hb
        · exact .inl hb
        · exact .inr (.inr (Ch hb hs.1))
theorem Ip(tab:eO P Θ)(hm:P.follows .mixedOrders=true){gl:Gl}{os:List O}{af:List (List Nat)}{Q:AE→St→Prop}{s:St}(d:D)(hd:Fp os af os.length (List.replicate os.length false) d=true)
    (h:bH P Γ gl os (Q .normal) os.length d s):qK P Θ Γ gl (.regD os af) Q s:=
  AU tab hm gl (Fe _ _ d s (qw _ _) hd h)
theorem DN(tab:eO P Θ)(hm:P.follows .mixedOrders=true){gl:Gl}{a b:C}{Q:AE→St→Prop}{s:St}(h:aw P Θ Γ gl a (iz (qK P Θ Γ gl b Q) Q) s):qK P Θ Γ gl (.seq a b) Q s:=rZ tab hm gl a _ s h
theorem Is(tab:eO P Θ)(hm:P.follows .mixedOrders=true){gl:Gl}{a b:C}{i:Nat}{Q:AE→St→Prop}{s:St}(h:qK P Θ Γ gl a (jq i (iz (aw P Θ Γ gl b Q) Q)) s):qK P Θ Γ gl (.seq (.block i a) b) Q s:=by
  refine ll (.block i a) s (fun e s he=>?_) (show qK P Θ Γ gl (.block i a) (iz (aw P Θ Γ gl b Q) Q) s from h)
  cases e<;>simp only[iz]at he ⊢
  · exact rZ tab hm gl _ _ _ he
  · exact he
  · exact he
theorem BI(R:St→Prop){gl:Gl}{a b:C}{Q:AE→St→Prop}{s:St}(h1:qK P Θ Γ gl a (C3 R Q) s)(h2:∀s',R s'→qK P Θ Γ gl b Q s'):qK P Θ Γ gl (.seq a b) Q s:=
  ll a s (fun e s he=>by cases e<;>first|exact h2 s he|exact he) h1
theorem HJ(tab:eO P Θ)(hm:P.follows .mixedOrders=true)(R:St→Prop){gl:Gl}{a b:C}{Q:AE→St→Prop}{s:St}(h1:aw P Θ Γ gl a (C3 R Q) s)(h2:∀s',R s'→qK P Θ Γ gl b Q s'):qK P Θ Γ gl (.seq a b) Q s:=
  BI R (rZ tab hm gl a _ s h1) h2
theorem HF{e e':List AV}{L X Y:List (List AV)}{h:AH}:Mem ⟨e,L++X,h⟩ ⟨e',L++(X++Y),h⟩:=by
  rw[←List.append_assoc];exact Mem.loc ⟨_,L++X,_⟩ _ _
theorem j9{rs:List Nat}{e e':List AV}{L:List (List AV)}{h h':AH}(hx:∀r∈rs,(∃i off,e.getD r .any=.lp i off)∨(∃c g off,e.getD r .any=.gp c g off∧h'[c]? = h[c]?)):fY rs ⟨e,L,h⟩ ⟨e',L,h'⟩:=by
  intro r hr n cs hc
  rcases hx r hr with⟨i,off,he⟩|⟨c,g,off,he,hh⟩
  · simp only[he]at hc ⊢
    simpa only[St.cells]using hc
  · simp only[he]at hc ⊢
    simp only[St.cells]at hc ⊢
    rw[show bJ h' c=bJ h c by unfold bJ;rw[hh]];exact hc
theorem Qq(tab:eO P Θ)(gl:Gl){c:C}{Q:AE→St→Prop}{s:St}{α:Type}(I:α→Prop)(μ:α→Nat)(st:α→St)(x:α)(hx:I x)(hs:Le s (st x))
    (round:∀x,I x→qK P Θ Γ gl c (iz (fun s'=>∃y,I y∧μ y<μ x∧Le s' (st y)) Q) (st x)):TC P Θ Γ (.loop c) Q s:=by
  refine TC.le hs (Bc tab gl (fun y:{ y // I y }=>μ y.1) (fun y=>st y.1) (fun y=>ll _ _ ?_ (round y.1 y.2)) ⟨x,hx⟩)
  intro e s h
  cases e<;>simp only[iz]at h ⊢
  · obtain⟨y,h1,h2,h3⟩:=h
    exact⟨⟨y,h1⟩,h2,h3⟩
  · exact h
  · exact h
end
end Go.AM
namespace Go.AM
def LL(c0 row:List AV)(X:List (List AV)):List (List AV):=c0::row::X
theorem dv(c0 row:List AV)(X:List (List AV)):(LL c0 row X).length=X.length+2:=rfl
theorem Ho(c0 row:List AV)(X Y:List (List AV)):LL c0 row X++Y=LL c0 row (X++Y):=rfl
section
variable {e:List AV} {h:AH} {c0 row:List AV} {X Y:List (List AV)}
theorem cg(off n:Nat):(St.mk e (LL c0 row X) h).cells (.lp (([]:List (List AV)).length) off) n=sub c0 off n:=rfl
theorem aY(off n:Nat):(St.mk e (LL c0 row X) h).cells (.lp (([]:List (List AV)).length+1) off) n=sub row off n:=rfl
theorem Ie(off n:Nat):(St.mk e (LL c0 row X++Y) h).cells (.lp (([]:List (List AV)).length) off) n=sub c0 off n:=rfl
theorem dB(off n:Nat):(St.mk e (LL c0 row X++Y) h).cells (.lp (([]:List (List AV)).length+1) off) n=sub row off n:=rfl
theorem gz(z:List AV)(off n:Nat):(St.mk e (LL c0 row X++z::Y) h).cells (.lp (X.length+2) off) n=sub z off n:=by
  simp[St.cells,LL]
theorem ic(z z2:List AV)(off n:Nat):(St.mk e (LL c0 row X++z::z2::Y) h).cells (.lp (X.length+2+1) off) n=sub z2 off n:=by
  simp[St.cells,LL]
theorem tG{off:Nat}{vs:List AV}(h1:off+vs.length≤c0.length)(h2:vs.all bK=true):(St.mk e (LL c0 row X) h).store (.lp (([]:List (List AV)).length) off) vs=some ⟨e,LL (cB c0 off vs) row X,h⟩:=by
  simp[St.store,LL,h1,h2]
theorem Ea{off:Nat}{vs:List AV}(h1:off+vs.length≤row.length)(h2:vs.all bK=true):(St.mk e (LL c0 row X) h).store (.lp (([]:List (List AV)).length+1) off) vs=some ⟨e,LL c0 (cB row off vs) X,h⟩:=by
  simp[St.store,LL,h1,h2]
theorem AA{off:Nat}{vs:List AV}(h1:off+vs.length≤row.length)(h2:vs.all bK=true):(St.mk e (LL c0 row X++Y) h).store (.lp (([]:List (List AV)).length+1) off) vs=some ⟨e,LL c0 (cB row off vs) X++Y,h⟩:=by
  rw[Ho,Ea h1 h2,Ho]
theorem oq{z:List AV}{off:Nat}{vs:List AV}(h1:off+vs.length≤z.length)(h2:vs.all bK=true):(St.mk e (LL c0 row X++z::Y) h).store (.lp (X.length+2) off) vs=some ⟨e,LL c0 row X++cB z off vs::Y,h⟩:=by
  simp[St.store,LL,h1,h2]
theorem AW{z z2:List AV}{off:Nat}{vs:List AV}(h1:off+vs.length≤z2.length)(h2:vs.all bK=true):(St.mk e (LL c0 row X++z::z2::Y) h).store (.lp (X.length+2+1) off) vs=some ⟨e,LL c0 row X++z::cB z2 off vs::Y,h⟩:=by
  simp[St.store,LL,h1,h2]
end
end Go.AM
namespace Go.AM
theorem pO.put{H:AH}{b g:Nat}{pre row post:List AV}(m:pO H b g pre row post)(i:Nat)(vs:List AV)(hi:i+vs.length≤row.length)(hv:vs.all bo=true):
    ∃H',(∀(e:List AV) (L:List (List AV)),(St.mk e L H).store (.gp b g (pre.length+i)) vs=some ⟨e,L,H'⟩)∧pO H' b g pre (cB row i vs) post∧H'.length=H.length∧∀c,c≠b→H'[c]? = H[c]?:=m.store hi hv
end Go.AM
namespace Go.AM
theorem VO.n9{H:AH}{b:Nat}{v:aA}{wE w2 wL w4:AV}{fE f2 fL f4:List Nat}(o:VO H b v wE w2 wL w4 fE f2 fL f4){k:Nat}(hk:k<v.aq.length):∃bL gL n row f0,eJ 7 wL (k:Int)=some (.gp bL gL n)∧(∀(e:List AV) (L:List (List AV)),(St.mk e L H).cells (.gp bL gL n) 7=some row)∧
    row.length=7∧aO H row v.aq[k].cd f0∧f0.Nodup∧(∀c∈f0,c∈fL)∧bL∈fL∧bL∉f0∧
    ∀(H4:AH) (i:Nat) (vs:List AV) (l':aC) (f' G:List Nat),H.length≤H4.length→(∀c∈G,c∉gB fE f2 fL f4∧c≠b)→(∀c,c<H.length→c∉f0→c∉G→H4[c]? = H[c]?)→i+vs.length≤7→vs.all bo=true→aO H4 (cB row i vs) l'.cd f'→f'.Nodup→(∀c∈f',c∈f0∨c∈G∨H.length≤c)→
      (∀(e:List AV) (L:List (List AV)) (off m:Nat),(St.mk e L H4).cells (.gp bL gL (n+off)) m=sub row off m∨7<off+m)∧
      ∃H5 f5,(∀(e:List AV) (L:List (List AV)),(St.mk e L H4).store (.gp bL gL (n+i)) vs=some ⟨e,L,H5⟩)∧H5.length=H4.length∧(∀c,c≠bL→H5[c]? = H4[c]?)∧
        js H5 b { v with aq:=v.aq.set k l' } f5∧(∀c∈f5,(c∈gB fE f2 fL f4∧c∉f0)∨c∈f'):=by
  have vlt:=o.lt
  have bf:=o.bf
  have blt:=o.blt
  have hb:=o.hb
  have hkm:k<(v.aq.map aC.cd).length:=by simpa using hk
  obtain⟨bL,gL,pre,rowL,post,fL0,iL,mL,lL,oLr,nLr,sLr,bmL,bnL,close⟩:=o.oL.BH o.nL hkm
  rw[List.getElem_map]at oLr
  have hfE:∀c∈fL,c<H.length:=fun c hc=>vlt c (bU.2 (.inr (.inr (.inl hc))))
  have hbq:=hfE bL bmL
  refine⟨bL,gL,pre.length,rowL,fL0,iL,fun e L=>by rw[mL.qn e L 7 (by omega)];exact pC lL,lL,oLr,nLr,sLr,bmL,bnL,fun H4 i vs l' f' G hl dG fr hi hv o' n' b'=>?_⟩
  have hbG:bL∉G:=fun h=>(dG bL h).1 (bU.2 (.inr (.inr (.inl bmL))))
  have m4:pO H4 bL gL pre _ post:=mL.frame (fr bL hbq bnL hbG)
  obtain⟨H5,s5,m5,l5,r5⟩:=m4.store (i:=i) (vs:=vs) (by omega) hv
  refine⟨fun e L off m=>?_,?_⟩
  · by_cases ho:off+m≤7
    · exact .inl (m4.cells e L off m (by omega))
    · exact .inr (by omega)
  have nb:∀c∈f',c≠bL:=fun c hc e=>by
    rcases b' c hc with g|g|g
    · exact bnL (e▸g)
    · exact hbG (e▸g)
    · omega
  have o5:=o'.frame (h':=H5) fun c hc=>r5 c (nb c hc)
  obtain⟨fL',oL5,nL5,mL5⟩:=close H5 _ l'.cd f' o5 n' rfl (fun c hc=>by
    rcases b' c hc with g|g|g
    · exact .inl g
    · exact .inr (fun h=>(dG c g).1 (bU.2 (.inr (.inr (.inl h)))))
    · exact .inr (fun h=>by have:=hfE c h;omega)) m5 (fun c hc hcf hcb=>by rw[r5 c hcb];exact fr c (hfE c hc) hcf (fun h=>(dG c h).1 (bU.2 (.inr (.inr (.inl hc))))))
  have hb5:bJ H5 b=some (0,[.int .i64 v.id,wE,w2,wL,w4]):=by
    rw[bO (r5 b (fun e=>bf (bU.2 (.inr (.inr (.inl (e▸bmL))))))),bO (fr b blt (fun h=>bf (bU.2 (.inr (.inr (.inl (sLr b h)))))) (fun h=>(dG b h).2 rfl))];exact hb
  rw[←List.map_set]at oL5
  have u:=o.Of (G:=G) hb5 oL5 nL5 (fun c hc=>by
    rcases mL5 c hc with g|g
    · exact .inl g.1
    · rcases b' c g with q|q|q
      · exact .inl (sLr c q)
      · exact .inr (.inl q)
      · exact .inr (.inr q)) dG (by omega)
    (fun c h1 h2 h3 h4=>by rw[r5 c (fun e=>h1 (e▸bmL)),fr c h4 (fun h=>h1 (sLr c h)) h2])
  refine⟨H5,_,s5,l5,r5,u.at,fun c hc=>?_⟩
  have out:∀c,c∈fL0→c∉fE∧c∉f2∧c∉f4:=fun c h=>⟨fun g=>o.dEL c g (sLr c h),fun g=>o.d2L c g (sLr c h),o.dL4 c (sLr c h)⟩
  rcases bU.1 hc with g|g|g|g
  · exact .inl ⟨bU.2 (.inl g),fun h=>(out c h).1 g⟩
  · exact .inl ⟨bU.2 (.inr (.inl g)),fun h=>(out c h).2.1 g⟩
  · rcases mL5 c g with q|q
    · exact .inl ⟨bU.2 (.inr (.inr (.inl q.1))),q.2⟩
    · exact .inr q
  · exact .inl ⟨bU.2 (.inr (.inr (.inr g))),fun h=>(out c h).2.2 g⟩
end Go.AM
namespace Go.AM
variable {P:Program} {Γ:cj}
theorem T.NN{ι:Type}{C:ι→Prop}{f:FuncId}{args:List AV}{h:AH}{Q:AV→AH→Prop}{rs:ι→List RD}(t:T P Γ f args h Q)
    (hq:∀v h',Q v h'→∃i vs new fp,C i∧v=i9 vs∧h'=h++new∧gb h' vs (rs i) fp∧fp.Nodup∧∀b∈fp,h.length≤b):T P Γ f args h fun v h'=>∃i,C i∧aS h (rs i) v h':=by
  refine t.prune fun v h' q=>?_
  obtain⟨i,vs,new,fp,hC,rfl,rfl,o,nd,hb⟩:=hq v h' q
  let new':AH:=new.mapIdx fun q x=>if h.length+q∈fp then x else none
  have bJ:∀b,(h++new')[b]? = if h.length≤b∧b<(h++new).length∧b∉fp then some none else (h++new)[b]?:=by
    intro b
    rcases Nat.lt_or_ge b h.length with hlt|hge
    · rw[List.getElem?_append_left hlt,List.getElem?_append_left hlt,if_neg (by omega)]
    · rw[List.getElem?_append_right hge,List.getElem?_append_right hge]
      simp only[new',List.getElem?_mapIdx]
      rw[show h.length+(b-h.length)=b by omega]
      rcases Nat.lt_or_ge (b-h.length) new.length with hl|hl
      · rw[List.getElem?_eq_getElem hl]
        by_cases hm:b∈fp
        · simp[hm]
        · simp only[hm,if_false,Option.map_some,not_false_eq_true,and_true]
          rw[if_pos ⟨hge,by simp;omega⟩]
      · rw[List.getElem?_eq_none hl]
        simp only[Option.map_none]
        rw[if_neg (by simp;omega)]
  refine⟨h++new',by simp[new'],fun b x e=>?_,i,hC,vs,new',fp,rfl,rfl,o.frame fun b hm=>?_,nd,hb,fun b h1 h2 h3=>?_⟩
  · rw[bJ]at e
    split at e
    · cases e
    · exact e
  · rw[bJ,if_neg (by simp[hm])]
  · rw[bJ,if_pos ⟨h1,by simp[new']at h2;simpa using h2,h3⟩]
theorem ah.Pv{ι:Type}{C:ι→Prop}{f:FuncId}{args args':List AV}{s:St}{rs:ι→List RD}{K:AV→St→Prop}(ho:args.all eH=true)(hs:mO s.heap args args')
    (t:∀h,T P Γ f args' h fun v h'=>∃i,C i∧aS h (rs i) v h') (hk:∀i,C i→∀v h',aS s.heap (rs i) v h'→K v { s with heap:=h' }):ah P Γ f args s K:=by
  refine ah.snap ho hs (t _) ?_
  rintro v h' ⟨i,hC,vs,new,fp,rfl,rfl,o,nd,hb,hd⟩
  have hlr:(List.replicate s.heap.length (none:Option (Nat×List AV))).length=s.heap.length:=by simp
  have same:∀b,s.heap.length≤b→(s.heap++new)[b]? = (List.replicate s.heap.length none++new)[b]?:=fun b hb=>by
    rw[List.getElem?_append_right hb,List.getElem?_append_right (by rw[hlr];exact hb),hlr]
  rw[hlr]at hb hd
  have o':gb (s.heap++new) vs (rs i) fp:=o.frame fun b hm=>same b (hb b hm)
  have hd':∀b,s.heap.length≤b→b<(s.heap++new).length→b∉fp→(s.heap++new)[b]? = some none:=fun b h1 h2 h3=>by
    rw[same b h1];exact hd b h1 (by simp at h2 ⊢;omega) h3
  exact⟨new,rfl,Cc (o.nb hb),aS.Hg o' hb hd',hk i hC _ _ ⟨vs,new,fp,rfl,rfl,o',nd,hb,hd'⟩⟩
theorem T.DP{ι:Type}{C:ι→Prop}{f:FuncId}{args:List AV}{h:AH}{cs:ι→List CD}(t:T P Γ f args h fun v h'=>∃i as new fp,C i∧v=.agg as∧h'=h++new∧aO h' as (cs i) fp∧fp.Nodup∧∀b∈fp,h.length≤b):T P Γ f args h fun v h'=>∃i,C i∧aS h [.a (cs i)] v h':=
  T.NN (rs:=fun i=>[.a (cs i)]) t fun v h' ⟨i,as,new,fp,hC,e,e',o,nd,hb⟩=>⟨i,[v],new,fp,hC,e▸rfl,e',⟨fp,[],by simp,⟨as,e,o⟩,rfl⟩,nd,hb⟩
end Go.AM
