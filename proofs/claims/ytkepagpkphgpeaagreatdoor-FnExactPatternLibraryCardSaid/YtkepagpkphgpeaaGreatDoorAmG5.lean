import Derived.Test.YtkepagpkphgpeaaGreatDoorAmG4
set_option linter.unusedVariables false
set_option linter.unusedSimpArgs false
namespace Go.AM
def quiet:I→Bool
  | .alloc _|.box _|.bsl .. | .store .. | .cvb _|.mks .. | .app .. | .appz .. | .clr .. | .copy .. | .call .. | .bad=>false
  | _=>true
def j9:I→Bool
  | .load .. | .cvt _=>false
  | i=>quiet i
def X.tm:X→List Nat|.t n=>[n]|_=>[]
def G0(xs:List X):List Nat:=xs.flatMap X.tm
def oT:Option X→List Nat|some x=>x.tm|none=>[]
def looks:I→List Nat
  | .mov x|.box x|.nilchk x|.un _ x|.cvi _ x|.cvs x|.cvb x|.cvt x|.fld _ x|.extr x _|.len _ x|.cap x|.clr _ _ x=>x.tm
  | .pick c a b=>c.tm++(a.tm++b.tm)
  | .alloc _|.lenc _=>[]
  | .build _ ps=>ps.flatMap fun p=>p.2.2.tm
  | .bsl _ _ _ ps=>ps.flatMap fun p=>p.2.tm
  | .load _ _ a=>a.tm
  | .store _ a v=>a.tm++v.tm
  | .bin _ _ x y=>x.tm++y.tm
  | .mkf _ a b=>G0 a++G0 b
  | .mks _ _ _ l c|.appz _ _ _ l c=>l.tm++c.tm
  | .slice _ x lo hi mx=>x.tm++(oT lo++(oT hi++oT mx))
  | .idxs _ x i|.idxa _ _ x i|.idxstr x i|.idxagg _ _ _ x i=>x.tm++i.tm
  | .app _ _ _ _ x y|.copy _ _ x y=>x.tm++y.tm
  | .mm _ xs=>G0 xs
  | .call f args=>f.tm++G0 args
  | .bad=>[]
def gj(os:List O)(o:O):List Nat:=
  looks o.op++match o.gd with|some (j,_)=>((os[j]?).bind (·.dst)).toList|none=>[]
section
variable {P:Program} {Θ:gQ} {Γ:aZ}
def AR.sd(e:List AV):AR→AR
  | .val v s=>.val v { s with env:=e }
  | r=>r
theorem aH{s:St}{e:List AV}{x:X}(h:∀t∈x.tm,e[t]? = s.env[t]?):({ s with env:=e }:St).eval Γ x=s.eval Γ x:=by
  cases x with
  | t n=>simp[St.eval,List.getD_eq_getElem?_getD,h n (by simp[X.tm])]
  | c v=>rfl
  | g n=>rfl
theorem gV{s:St}{e:List AV}{xs:List X}(h:∀t∈G0 xs,e[t]? = s.env[t]?):xs.map (({ s with env:=e }:St).eval Γ)=xs.map (s.eval Γ):=
  List.map_congr_left fun x hx=>aH fun t ht=>h t (List.mem_flatMap.2 ⟨x,hx,ht⟩)
theorem pJ{s:St}{e:List AV}{d:Nat}{o:Option X}(h:∀t∈oT o,e[t]? = s.env[t]?):mO Γ { s with env:=e } d o=mO Γ s d o:=by
  cases o with
  | none=>rfl
  | some x=>simp only[mO];rw[aH h]
theorem uv{s:St}{e:List AV}(a:AV)(n:Nat):({ s with env:=e }:St).cells a n=s.cells a n:=by cases a<;>rfl
theorem lL{s:St}{e:List AV}(n:Nat)(a:AV):({ s with env:=e }:St).aE n a=s.aE n a:=by cases a<;>rfl
theorem jK{s:St}{e:List AV}(a:AV)(cs:List AV):({ s with env:=e }:St).store a cs=(s.store a cs).map fun s'=>{ s' with env:=e }:=by
  cases a<;>try rfl
  case lp i off=>
    simp only[St.store]
    cases s.loc[i]? with
    | none=>rfl
    | some l=>simp only[Option.bind_some];split<;>(try split)<;>rfl
  case gp b g off=>
    simp only[St.store]
    cases aS s.heap b with
    | none=>rfl
    | some l=>simp only[Option.bind_some];split<;>(try split)<;>(try split)<;>rfl
theorem iV{s:St}{e:List AV}(n:Nat)(b:Bool)(a:AV):cB { s with env:=e } n b a=cB s n b a:=by
  cases b<;>cases a<;>rfl
theorem ub{s:St}{e:List AV}(sz bytes:Nat)(z:List AV)(n:Int):qS { s with env:=e } sz bytes z n=(qS s sz bytes z n).map fun p=>(p.1,{ p.2 with env:=e }):=by
  unfold qS
  split
  · split<;>rfl
  · rfl
theorem vH{s:St}{e:List AV}(sz bytes:Nat)(z:List AV)(ln cp:Int):uB { s with env:=e } sz bytes z ln cp=(uB s sz bytes z ln cp).map fun p=>(p.1,{ p.2 with env:=e }):=by
  unfold uB
  split
  · split<;>rfl
  · rfl
theorem xc{s:St}{e:List AV}(sz bytes:Nat)(x:AV)(ys:List AV)(n m:Nat):kA { s with env:=e } sz bytes x ys n m=(kA s sz bytes x ys n m).map fun p=>(p.1,{ p.2 with env:=e }):=by
  unfold kA
  split
  · rfl
  split
  · rfl
  cases x<;>try rfl
  · simp only
    split
    · rfl
    split<;>rfl
  · simp only
    cases aS s.heap _ with
    | none=>rfl
    | some l=>
      simp only[Option.bind_some]
      split
      · split
        · split
          · split
            · split<;>rfl
            · cases sub l.2 _ _<;>rfl
          · rfl
        · rfl
      · rfl
  · simp only
    split
    · rfl
    split
    · split
      · split
        · split<;>rfl
        · rfl
      · rfl
    · rfl
theorem xt{s:St}{e:List AV}(sz:Nat)(z:List AV)(x:AV):qw { s with env:=e } sz z x=(qw s sz z x).map fun s'=>{ s' with env:=e }:=by
  unfold qw
  split
  · rfl
  · split
    · rfl
    · split
      · exact jK _ _
      · rfl
  · rfl
  · rfl
theorem ud{s:St}{e:List AV}(sz:Nat)(x:AV)(ys:List AV)(n:Nat):tC { s with env:=e } sz x ys n=(tC s sz x ys n).map fun p=>(p.1,{ p.2 with env:=e }):=by
  unfold tC
  split
  · rfl
  · split
    · rw[jK];simp[Option.map_map,Function.comp_def]
    · rfl
  · rfl
theorem cX{s:St}{e:List AV}(o:Option AV):AR.cZ { s with env:=e } o=(AR.cZ s o).sd e:=by cases o<;>rfl
theorem tP{e:List AV}(o:Option St):AR.vP (o.map fun s'=>{ s' with env:=e })=(AR.vP o).sd e:=by cases o<;>rfl
theorem kl{e:List AV}(o:Option (AV×St)):AR.uP (o.map fun p=>(p.1,{ p.2 with env:=e }))=(AR.uP o).sd e:=by cases o<;>rfl
theorem lM{s:St}{e:List AV}{gl:Bool}(i:I)(h:∀t∈looks i,e[t]? = s.env[t]?):step Γ gl { s with env:=e } i=(step Γ gl s i).sd e:=by
  cases i<;>simp only[looks,List.mem_append]at h<;>simp only[step]
  case mov x=>rw[aH h];rfl
  case pick c a b=>
    rw[aH (x:=c) fun t ht=>h t (.inl ht),aH (x:=a) fun t ht=>h t (.inr (.inl ht)),aH (x:=b) fun t ht=>h t (.inr (.inr ht))]
    cases s.eval Γ c<;>rfl
  case alloc z=>split<;>(try split)<;>rfl
  case box x=>
    rw[aH h]
    cases cellsOf (s.eval Γ x)with
    | none=>rfl
    | some cs=>simp only;split<;>(try split)<;>rfl
  case build z ps=>
    rw[List.map_congr_left (g:=fun p:Nat×Nat×X=>(p.1,p.2.1,s.eval Γ p.2.2)) fun p hp=>by rw[aH fun t ht=>h t (List.mem_flatMap.2 ⟨p,hp,ht⟩)]]
    exact cX _
  case bsl sz len z ps=>
    rw[List.map_congr_left (g:=fun p:Nat×X=>(p.1*sz,sz,s.eval Γ p.2)) fun p hp=>by rw[aH fun t ht=>h t (List.mem_flatMap.2 ⟨p,hp,ht⟩)]]
    cases di _ _ with
    | none=>rfl
    | some cs=>simp only;split<;>rfl
  case load n agg a=>rw[aH h,uv];exact cX _
  case store n a v=>
    rw[aH (x:=v) fun t ht=>h t (.inr ht),aH (x:=a) fun t ht=>h t (.inl ht)]
    cases cellsOf (s.eval Γ v)with
    | none=>rfl
    | some cs=>
      simp only
      split
      · rw[jK];exact tP _
      · rfl
  case nilchk x=>
    rw[aH h]
    cases isNil (s.eval Γ x)with
    | none=>rfl
    | some b=>cases b<;>rfl
  case bin op ek x y=>rw[aH (x:=x) fun t ht=>h t (.inl ht),aH (x:=y) fun t ht=>h t (.inr ht)];exact cX _
  case un op x=>rw[aH h];exact cX _
  case cvi k x=>rw[aH h];cases s.eval Γ x<;>rfl
  case cvs x=>rw[aH h];cases s.eval Γ x<;>rfl
  case cvb x=>
    rw[aH h]
    cases s.eval Γ x<;>try rfl
    simp only
    split<;>rfl
  case cvt x=>rw[aH h,lL];exact cX _
  case mkf f first caps=>rw[gV fun t ht=>h t (.inl ht),gV fun t ht=>h t (.inr ht)];rfl
  case mks sz bytes z l c=>
    rw[aH (x:=l) fun t ht=>h t (.inl ht),aH (x:=c) fun t ht=>h t (.inr ht)]
    cases s.eval Γ l<;>try rfl
    cases s.eval Γ c<;>try rfl
    simp only
    rw[vH];exact kl _
  case appz sz bytes z l c=>
    rw[aH (x:=l) fun t ht=>h t (.inl ht),aH (x:=c) fun t ht=>h t (.inr ht)]
    cases s.eval Γ l<;>try rfl
    cases s.eval Γ c<;>try rfl
    simp only
    rw[ub];exact kl _
  case slice k x lo hi mx=>
    rw[aH (x:=x) fun t ht=>h t (.inl ht),pJ (o:=lo) fun t ht=>h t (.inr (.inl ht))]
    have e1:∀y,hi=some y→mO Γ { s with env:=e } 0 (some y)=mO Γ s 0 (some y):=fun y hy=>pJ (o:=some y) fun t ht=>h t (.inr (.inr (.inl (by rw[hy];exact ht))))
    have e2:∀y,mx=some y→mO Γ { s with env:=e } 0 (some y)=mO Γ s 0 (some y):=fun y hy=>pJ (o:=some y) fun t ht=>h t (.inr (.inr (.inr (by rw[hy];exact ht))))
    cases hi<;>cases mx<;>(first|simp only[e1 _ rfl,e2 _ rfl]|simp only[e1 _ rfl]|simp only[e2 _ rfl]|dsimp only)<;>(split<;>first|exact cX _|rfl)
  case fld off x=>rw[aH h];exact cX _
  case idxs sz x i=>
    rw[aH (x:=x) fun t ht=>h t (.inl ht),aH (x:=i) fun t ht=>h t (.inr ht)]
    cases s.eval Γ i<;>try rfl
    exact cX _
  case idxa n sz x i=>
    rw[aH (x:=x) fun t ht=>h t (.inl ht),aH (x:=i) fun t ht=>h t (.inr ht)]
    cases s.eval Γ i<;>try rfl
    exact cX _
  case idxstr x i=>
    rw[aH (x:=x) fun t ht=>h t (.inl ht),aH (x:=i) fun t ht=>h t (.inr ht)]
    split
    · exact cX _
    · rfl
  case idxagg n sz agg x i=>
    rw[aH (x:=x) fun t ht=>h t (.inl ht),aH (x:=i) fun t ht=>h t (.inr ht)]
    split
    · exact cX _
    · rfl
  case extr x i=>
    rw[aH h]
    cases s.eval Γ x<;>try rfl
    exact cX _
  case len str x=>rw[aH h];exact cX _
  case lenc n=>rfl
  case cap x=>
    rw[aH h]
    split<;>first|rfl|(rename_i h1;cases h1)
  case app sz bytes z str x y=>
    rw[aH (x:=x) fun t ht=>h t (.inl ht),aH (x:=y) fun t ht=>h t (.inr ht),iV]
    split
    · rw[xc];exact kl _
    · rfl
  case clr sz z x=>rw[aH h,xt];exact tP _
  case copy sz str x y=>
    rw[aH (x:=x) fun t ht=>h t (.inl ht),aH (x:=y) fun t ht=>h t (.inr ht),iV]
    split
    · rw[ud];exact kl _
    · rfl
  case mm mx xs=>rw[gV h];exact cX _
  case bad=>rfl
  case call f args=>
    rw[aH (x:=f) fun t ht=>h t (.inl ht),gV fun t ht=>h t (.inr ht)]
    cases s.eval Γ f<;>rfl
def Mem(s s':St):Prop:=(∀(i:Nat) l,s.loc[i]? = some l→s'.loc[i]? = some l)∧∀b e,aS s.heap b=some e→aS s'.heap b=some e
theorem Mem.refl(s:St):Mem s s:=⟨fun _ _ h=>h,fun _ _ h=>h⟩
theorem Mem.loc(s:St)(env:List AV)(l:List (List AV)):Mem s ⟨env,s.loc++l,s.heap⟩:=
  ⟨fun i x h=>by rw[List.getElem?_append_left (ar h)];exact h,fun _ _ h=>h⟩
theorem Mem.heap(s:St)(env:List AV)(l:AH):Mem s ⟨env,s.loc,s.heap++l⟩:=
  ⟨fun _ _ h=>h,fun b x h=>by have h:=bb h;exact pV (by rw[List.getElem?_append_left (ar h)];exact h)⟩
theorem Mem.env(s:St)(env:List AV):Mem s ⟨env,s.loc,s.heap⟩:=⟨fun _ _ h=>h,fun _ _ h=>h⟩
theorem n8{s s':St}(m:Mem s s'){a:AV}{n:Nat}{cs:List AV}(h:s.cells a n=some cs):s'.cells a n=some cs:=by
  cases a<;>simp only[St.cells]at h ⊢<;>try exact h
  · obtain⟨l,h1,h2⟩:=dO h
    rw[m.1 _ _ h1];exact h2
  · obtain⟨l,h1,h2⟩:=dO h
    rw[m.2 _ _ h1];exact h2
theorem lO{s s':St}(m:Mem s s'){a:AV}{n:Nat}{cs:List AV}(h:s.aE n a=some cs):s'.aE n a=some cs:=by
  cases a
  case opq v=>
    have e:∀t:St,t.aE n (.opq v)=(⟨[],[],[]⟩:St).aE n (.opq v):=fun t=>by
      unfold St.aE
      split<;>first|rfl|(rename_i he;cases he;done)|skip
    rw[e]at h ⊢;exact h
  case gs=>
    simp only[St.aE]at h ⊢
    split at h
    · rename_i hs
      rw[if_pos hs]
      obtain⟨l,h1,h2⟩:=dO h
      rw[m.2 _ _ h1];exact h2
    · cases h
  all_goals (simp only[St.aE]at h ⊢<;>exact h)
theorem km{s s':St}{o:Option AV}{v:AV}(h:AR.cZ s o=.val v s'):s'=s∧o=some v:=by
  cases o with
  | none=>simp[AR.cZ]at h
  | some x=>simp[AR.cZ]at h;exact⟨h.2.symm,by rw[h.1]⟩
theorem mj{s s1:St}{gl:Bool}{i:I}{v:AV}(hq:quiet i=true)(h:step Γ gl s i=.val v s1):
    s1=s∧∀s':St,s'.env=s.env→(j9 i=true∨Mem s s')→step Γ gl s' i=.val v s':=by
  have ev:∀(s':St),s'.env=s.env→s'.eval Γ=s.eval Γ:=fun s' he=>by
    funext x;cases x<;>simp[St.eval,he]
  have bn:∀(s':St),s'.env=s.env→∀d o,mO Γ s' d o=mO Γ s d o:=fun s' he d o=>by
    cases o<;>simp[mO,ev s' he]
  have fin:∀{o:Option AV},AR.cZ s o=.val v s1→s1=s∧∀s':St,AR.cZ s' o=.val v s':=fun{o} h=>by
    obtain⟨h1,h2⟩:=km h
    exact⟨h1,fun s'=>by rw[h2];rfl⟩
  cases i<;>(try (simp only[quiet]at hq;cases hq))<;>simp only[step]at h ⊢
  case mov x=>injection h with h1 h2;exact⟨h2.symm,fun s' he _=>by rw[ev s' he,h1]⟩
  case pick c a b=>
    cases hc:s.eval Γ c<;>simp only[hc]at h<;>try cases h
    exact⟨rfl,fun s' he _=>by rw[ev s' he];simp only[hc]⟩
  case build z ps=>exact⟨(fin h).1,fun s' he _=>by rw[ev s' he];exact(fin h).2 s'⟩
  case load n agg a=>
    obtain⟨h1,h2⟩:=km h
    refine⟨h1,fun s' he m=>?_⟩
    obtain⟨cs,h3,h4⟩:=dO h2
    rw[ev s' he,n8 (m.resolve_left (by simp[j9])) h3];simp[h4,AR.cZ]
  case nilchk x=>
    cases hc:isNil (s.eval Γ x)with
    | none=>simp[hc]at h
    | some b=>
      cases b<;>simp[hc]at h
      exact⟨h.2.symm,fun s' he _=>by rw[ev s' he,hc];simp only;rw[h.1]⟩
  case bin op ek x y=>exact⟨(fin h).1,fun s' he _=>by rw[ev s' he];exact(fin h).2 s'⟩
  case un op x=>exact⟨(fin h).1,fun s' he _=>by rw[ev s' he];exact(fin h).2 s'⟩
  case cvi k x=>
    cases hc:s.eval Γ x<;>simp only[hc]at h<;>try cases h
    exact⟨rfl,fun s' he _=>by rw[ev s' he,hc]⟩
  case cvs x=>
    cases hc:s.eval Γ x<;>simp only[hc]at h<;>try cases h
    exact⟨rfl,fun s' he _=>by rw[ev s' he,hc]⟩
  case cvt x=>
    obtain⟨h1,h2⟩:=km h
    refine⟨h1,fun s' he m=>?_⟩
    cases hs:s.aE 1 (s.eval Γ x)with
    | none=>simp[hs]at h2
    | some cs=>rw[ev s' he,lO (m.resolve_left (by simp[j9])) hs];simp only[hs]at h2;rw[h2];rfl
  case mkf f first caps=>injection h with h1 h2;exact⟨h2.symm,fun s' he _=>by rw[ev s' he,h1]⟩
  case slice k x lo hi mx=>
    split at h
    · rename_i l h' m' e1 e2 e3
      refine⟨(fin h).1,fun s' he _=>?_⟩
      simp only[bn s' he,e1,e2,e3,ev s' he]
      exact(fin h).2 s'
    · cases h
  case fld off x=>exact⟨(fin h).1,fun s' he _=>by rw[ev s' he];exact(fin h).2 s'⟩
  case idxs sz x i=>
    cases hc:s.eval Γ i<;>simp only[hc]at h<;>try cases h
    exact⟨(fin h).1,fun s' he _=>by rw[ev s' he,hc];exact(fin h).2 s'⟩
  case idxa n sz x i=>
    cases hc:s.eval Γ i<;>simp only[hc]at h<;>try cases h
    exact⟨(fin h).1,fun s' he _=>by rw[ev s' he,hc];exact(fin h).2 s'⟩
  case idxstr x i=>
    split at h
    · rename_i e1 e2
      exact⟨(fin h).1,fun s' he _=>by rw[ev s' he,e1,e2];exact(fin h).2 s'⟩
    · cases h
  case idxagg n sz agg x i=>
    split at h
    · rename_i e1 e2
      exact⟨(fin h).1,fun s' he _=>by rw[ev s' he,e1,e2];exact(fin h).2 s'⟩
    · cases h
  case extr x i=>
    cases hc:s.eval Γ x<;>simp only[hc]at h<;>try cases h
    exact⟨(fin h).1,fun s' he _=>by rw[ev s' he,hc];exact(fin h).2 s'⟩
  case len str x=>exact⟨(fin h).1,fun s' he _=>by rw[ev s' he];exact(fin h).2 s'⟩
  case lenc n=>injection h with h1 h2;exact⟨h2.symm,fun s' he _=>by rw[h1]⟩
  case cap x=>
    split at h
    · rename_i e1;injection h with h1 h2;exact⟨h2.symm,fun s' he _=>by rw[ev s' he,e1];simp only;rw[h1]⟩
    · rename_i e1;injection h with h1 h2;exact⟨h2.symm,fun s' he _=>by rw[ev s' he,e1];simp only;rw[h1]⟩
    · cases h
  case mm mx xs=>exact⟨(fin h).1,fun s' he _=>by rw[ev s' he];exact(fin h).2 s'⟩
def lP(P:Program)(Γ:aZ)(gl:Gl)(os:List O)(i:Nat)(K:St→Prop)(s:St):Prop:=
  match os[i]? with
  | none=>K s
  | some o=>
    match guardOf os s o.gd with
    | none=>False
    | some t=>br t
        (match step Γ (fC gl o) s o.op with
          | .val v s'=>K (s'.put o.dst v)
          | .call f args=>an P Γ f args s fun v s'=>K (s'.put o.dst v)
          | .stuck=>False)
        (K (s.put o.dst (.tup [])))
def ck(os:List O)(af:List (List Nat))(done:List Bool):List Nat:=
  (List.range os.length).filter fun i=>!(done.getD i true) && (af.getD i []).all fun j=>done.getD j false
def fX(af:List (List Nat)):Nat→List Bool→List Bool
  | 0,S=>S
  | k+1,S=>fX af k (if S.getD k false=true then (af.getD k []).foldl (fun S e=>S.set e true) S else S)
def mc(os:List O)(i:Nat):Bool:=match os[i]? with|some o=>j9 o.op|none=>false
def iA(os:List O)(i:Nat):Bool:=match os[i]? with|some o=>j9 o.op || !quiet o.op|none=>false
def j7(os:List O)(af:List (List Nat))(done:List Bool)(i:Nat):Bool:=
  (List.range done.length).all fun q=>!(done.getD q false) || iA os q || (fX af i ((af.getD i []).foldl (fun S e=>S.set e true) (List.replicate done.length false))).getD q false
def oM(os:List O)(af:List (List Nat))(n i q:Nat):Bool:=
  iA os q || (fX af i ((af.getD i []).foldl (fun S e=>S.set e true) (List.replicate n false))).getD q false
def iP(os:List O)(q:Nat):Option Nat:=match os[q]? with|some ⟨_,_,.load _ _ (.t r)⟩=>some r|_=>none
def tq(os:List O)(af:List (List Nat))(q r:Nat):Bool:=(List.range os.length).all fun p=>(match os[p]? with|some o=>o.dst != some r|none=>true) || (af.getD q []).contains p
def Safe(s s':St)(p:AV):Prop:=∀n cs,s.cells p n=some cs→s'.cells p n=some cs
def ij(rs:List Nat)(s s':St):Prop:=∀r∈rs,Safe s s' (s.env.getD r .any)
def vn(os:List O)(af:List (List Nat))(done:List Bool)(i:Nat)(s s':St):Prop:=
  ∀q,q<done.length→done.getD q false=true→oM os af done.length i q=false→∃r,iP os q=some r∧tq os af q r=true∧Safe s s' (s.env.getD r .any)
def jI(P:Program)(Γ:aZ)(gl:Gl)(os:List O)(af:List (List Nat))(K:St→Prop):Nat→List Bool→St→Prop
  | 0,done,s=>ck os af done=[]∧K s
  | fuel+1,done,s=>(ck os af done=[]→K s)∧∀i∈ck os af done,lP P Γ gl os i (fun s'=>(j7 os af done i=true∨Mem s s'∨vn os af done i s s')∧jI P Γ gl os af K fuel (done.set i true) s') s
theorem an.env{f:FuncId}{args:List AV}{s:St}{K:AV→St→Prop}(e:List AV)(h:an P Γ f args { s with env:=e } K):an P Γ f args s fun v s'=>K v { s' with env:=e }:=by
  intro ρ ls w cargs m g ra
  obtain⟨h1,h2⟩:=h ρ ls w cargs m g ra
  refine⟨h1,h2.mono ?_⟩
  rintro x w' ⟨cv,v,s',ρ',ls',e1,e2,e3,e4,e5,e6⟩
  refine⟨cv,v,{ s' with env:=s.env },ρ',ls',e1,rfl,e3,e4,e5,?_⟩
  have:({ s' with env:=e }:St)=s':=by cases s';simp only at e2;subst e2;rfl
  simpa[this]using e6
def iy(e:List AV)(d:Option Nat)(v:AV):List AV:=match d with|some d=>e.set d v|none=>e
theorem put_eq(s:St)(d:Option Nat)(v:AV):s.put d v={ s with env:=iy s.env d v }:=by cases d<;>rfl
theorem uo(e:List AV){d d':Option Nat}(v v':AV)(h:∀x,d=some x→d'≠some x):iy (iy e d v) d' v'=iy (iy e d' v') d v:=by
  cases d with
  | none=>rfl
  | some d=>
    cases d' with
    | none=>rfl
    | some d'=>
      have:d≠d':=fun hx=>h d rfl (by rw[hx])
      simp only[iy]
      exact(List.set_comm _ _ this)
theorem pq(e:List AV){d:Option Nat}(v:AV){t:Nat}(h:∀x,d=some x→x≠t):(iy e d v)[t]? = e[t]?:=by
  cases d with
  | none=>rfl
  | some d=>simp only[iy];exact List.getElem?_set_ne (h d rfl)
def kS(os:List O)(x y:O):Bool:=
  (match x.dst with|some d=>!(gj os y).contains d && y.dst != some d|none=>true) && (match y.dst with|some d=>!(gj os x).contains d|none=>true)
theorem qC{os:List O}{x y:O}(h:kS os x y=true):(∀d,x.dst=some d→d∉gj os y)∧(∀d,x.dst=some d→y.dst≠some d)∧(∀d,y.dst=some d→d∉gj os x):=by
  refine⟨fun d hd=>?_,fun d hd=>?_,fun d hd=>?_⟩<;>simp[kS,hd]at h
  · exact h.1.1
  · exact h.1.2
  · exact h.2
theorem gI{os:List O}{s:St}{e:List AV}{o:O}(h:∀t∈gj os o,e[t]? = s.env[t]?):guardOf os { s with env:=e } o.gd=guardOf os s o.gd:=by
  unfold guardOf
  cases hg:o.gd with
  | none=>rfl
  | some jw=>
    obtain⟨j,want⟩:=jw
    simp only
    cases hb:(os[j]?).bind (·.dst)with
    | none=>rfl
    | some d=>simp only[h d (by simp[gj,hg,hb])]
def QV(Γ:aZ)(gl:Gl)(os:List O)(o:O)(v:AV)(s:St):Prop:=
  (guardOf os s o.gd=some true∧quiet o.op=true∧step Γ (fC gl o) s o.op=.val v s)∨(guardOf os s o.gd=some false∧v=.tup [])
theorem QV.env{gl:Gl}{os:List O}{o:O}{v:AV}{s:St}(h:QV Γ gl os o v s){e:List AV}(he:∀t∈gj os o,e[t]? = s.env[t]?):QV Γ gl os o v { s with env:=e }:=by
  rcases h with⟨h1,h2,h3⟩|⟨h1,h2⟩
  · refine .inl ⟨by rw[gI he];exact h1,h2,?_⟩
    rw[lM _ fun t ht=>he t (List.mem_append_left _ ht),h3];rfl
  · exact .inr ⟨by rw[gI he];exact h1,h2⟩
theorem eu{os:List O}{s s':St}(he:s'.env=s.env)(g:Option (Nat×Bool)):guardOf os s' g=guardOf os s g:=by
  unfold guardOf;rw[he]
theorem QV.mem{gl:Gl}{os:List O}{o:O}{v:AV}{s s':St}(h:QV Γ gl os o v s)(he:s'.env=s.env)(m:j9 o.op=true∨Mem s s'):QV Γ gl os o v s':=by
  rcases h with⟨h1,h2,h3⟩|⟨h1,h2⟩
  · exact .inl ⟨by rw[eu he];exact h1,h2,(mj h2 h3).2 s' he m⟩
  · exact .inr ⟨by rw[eu he];exact h1,h2⟩
theorem QV.jv{gl:Gl}{os:List O}{o:O}{v:AV}{s s':St}(h:QV Γ gl os o v s)(he:s'.env=s.env){n:Nat}{b:Bool}{r:Nat}(ho:o.op=.load n b (.t r))(hs:Safe s s' (s.env.getD r .any)):QV Γ gl os o v s':=by
  rcases h with⟨h1,h2,h3⟩|⟨h1,h2⟩
  · refine .inl ⟨by rw[eu he];exact h1,h2,?_⟩
    rw[ho]at h3 ⊢
    simp only[step,St.eval]at h3 ⊢
    obtain⟨_,h4⟩:=km h3
    obtain⟨cs,h5,h6⟩:=dO h4
    rw[he,hs n cs h5]
    simp[h6,AR.cZ]
  · exact .inr ⟨by rw[eu he];exact h1,h2⟩
theorem QV.lP{gl:Gl}{os:List O}{i:Nat}{o:O}{v:AV}{s:St}(hi:os[i]? = some o)(h:QV Γ gl os o v s){K:St→Prop}(hk:K (s.put o.dst v)):Go.AM.lP P Γ gl os i K s:=by
  unfold Go.AM.lP
  simp only[hi]
  rcases h with⟨h1,h2,h3⟩|⟨h1,rfl⟩
  · simp only[h1,h3];exact⟨fun _=>hk,fun h=>by cases h⟩
  · simp only[h1];exact⟨fun h=>(by cases h),fun _=>hk⟩
theorem dy{gl:Gl}{os:List O}{i:Nat}{K K':St→Prop}{s:St}(hk:∀s,K s→K' s)(h:lP P Γ gl os i K s):lP P Γ gl os i K' s:=by
  unfold lP at *
  split
  · simp_all
  · rename_i o ho
    simp only[ho]at h
    split
    · rename_i hg;simp[hg]at h
    · rename_i t hg
      simp only[hg]at h
      refine⟨fun ht=>?_,fun ht=>hk _ (h.2 ht)⟩
      have h:=h.1 ht
      split
      · rename_i v s' hs;rw[hs]at h;exact hk _ h
      · rename_i f args hs;rw[hs]at h;exact h.mono fun _ _=>hk _
      · rename_i hs;rw[hs]at h;exact h
theorem xZ{gl:Gl}{os:List O}{j:Nat}{oi oj:O}{v:AV}{s:St}{K:St→Prop}(hj:os[j]? = some oj)(hap:kS os oi oj=true)(hv:QV Γ gl os oi v s)
    (hK:∀s',K s'→(j9 oi.op=true∨Mem (s.put oi.dst v) s')∨∃(n:Nat) (b:Bool) (r:Nat),oi.op=.load n b (.t r)∧Safe s s' (s.env.getD r .any)) (h:lP P Γ gl os j K (s.put oi.dst v)):lP P Γ gl os j (fun s'=>QV Γ gl os oi v s'∧K (s'.put oi.dst v)) s:=by
  obtain⟨a1,a2,a3⟩:=qC hap
  have e1:∀t∈gj os oj,(iy s.env oi.dst v)[t]? = s.env[t]?:=fun t ht=>pq _ _ fun x hx hxt=>a1 x hx (hxt▸ht)
  have e2:∀(e:List AV) (u:AV),∀t∈gj os oi,(iy e oj.dst u)[t]? = e[t]?:=fun e u t ht=>pq _ _ fun x hx hxt=>a3 x hx (hxt▸ht)
  have mem:∀{s':St} {u:AV},K ({ s' with env:=iy (iy s.env oj.dst u) oi.dst v }:St)→(j9 oi.op=true∨Mem s ({ s' with env:=iy s.env oj.dst u }:St))∨∃(n:Nat) (b:Bool) (r:Nat),oi.op=.load n b (.t r)∧Safe s s' (s.env.getD r .any):=fun{s' u} hk=>(hK _ hk).imp (fun h=>h.imp id fun this=>by rw[put_eq]at this;exact⟨this.1,this.2⟩) id
  have fin:∀(s':St) (u:AV),s'.env=s.env→K (({ s' with env:=iy s.env oi.dst v }:St).put oj.dst u)→QV Γ gl os oi v (s'.put oj.dst u)∧K ((s'.put oj.dst u).put oi.dst v):=by
    intro s' u he hk
    rw[put_eq]at hk
    simp only at hk
    rw[uo _ _ _ (fun x hx=>a2 x hx)]at hk
    have hm:=mem (s':=s') hk
    rw[put_eq,put_eq]
    simp only[he]
    refine⟨?_,hk⟩
    have:QV Γ gl os oi v ({ s' with env:=s.env }:St):=by
      rcases hm with hm|⟨n,b,r,q1,q2⟩
      · exact QV.mem (s':={ s' with env:=s.env }) hv rfl (hm.imp id fun m=>⟨m.1,m.2⟩)
      · exact QV.jv (s':={ s' with env:=s.env }) hv rfl q1 q2
    exact this.env (e2 _ _)
  unfold lP at h ⊢
  simp only[hj]at h ⊢
  rw[put_eq]at h
  rw[gI e1]at h
  rw[lM _ fun t ht=>e1 t (List.mem_append_left _ ht)]at h
  split at h
  · exact h.elim
  · rename_i t hg
    refine⟨fun ht=>?_,fun ht=>?_⟩
    · have h:=h.1 ht
      cases hs:step Γ (fC gl oj) s oj.op with
      | val u s1=>
        rw[hs]at h
        simp only[AR.sd]at h ⊢
        have he:s1.env=s.env:=by
          have:=lM (Γ:=Γ) (gl:=fC gl oj) (s:=s) (e:=s.env) oj.op (fun _ _=>rfl)
          rw[show({ s with env:=s.env }:St)=s from rfl,hs]at this
          simp only[AR.sd,AR.val.injEq,true_and]at this
          rw[this]
        exact fin s1 u he h
      | call f args=>
        rw[hs]at h
        simp only[AR.sd]at h ⊢
        intro ρ ls w cargs m g ra
        obtain⟨h1,h2⟩:=h ρ ls w cargs m g ra
        refine⟨h1,h2.mono ?_⟩
        rintro x w' ⟨cv,u,s',ρ',ls',q1,q2,q3,q4,q5,q6⟩
        refine⟨cv,u,{ s' with env:=s.env },ρ',ls',q1,rfl,q3,q4,q5,?_⟩
        refine fin _ u rfl ?_
        have:({ s' with env:=iy s.env oi.dst v }:St)=s':=by cases s';simp only at q2;subst q2;rfl
        simpa[this]using q6
      | stuck=>rw[hs]at h;exact h.elim
    · have h:=h.2 ht
      exact fin s _ rfl h
theorem cm{os:List O}{af:List (List Nat)}{done:List Bool}{j:Nat}:j∈ck os af done↔j<os.length∧done.getD j true=false∧∀e∈af.getD j [],done.getD e false=true:=by
  unfold ck
  simp[List.mem_filter,List.all_eq_true]
theorem cN{l:List Bool}{i j:Nat}(d:Bool)(h:i≠j):(l.set i true).getD j d=l.getD j d:=by
  simp[List.getD_eq_getElem?_getD,List.getElem?_set_ne h]
theorem eC{l:List Bool}{i j:Nat}(h:l.getD j false=true):(l.set i true).getD j false=true:=by
  by_cases hij:i=j
  · subst hij
    have hlt:i<l.length:=by
      rcases Nat.lt_or_ge i l.length with h'|h'
      · exact h'
      · simp[List.getD_eq_getElem?_getD,List.getElem?_eq_none h']at h
    simp[List.getD_eq_getElem?_getD,List.getElem?_set_self hlt]
  · rw[cN false hij];exact h
theorem gP{os:List O}{af:List (List Nat)}{done:List Bool}{i j:Nat}(hj:j∈ck os af done)(hne:j≠i):j∈ck os af (done.set i true):=by
  rw[cm]at *
  exact⟨hj.1,by rw[cN true (Ne.symm hne)];exact hj.2.1,fun e he=>eC (hj.2.2 e he)⟩
def nE(os:List O)(af:List (List Nat))(done:List Bool)(i:Nat):Bool:=
  match os[i]? with
  | none=>false
  | some oi=>(List.range os.length).all fun j=>j == i || done.getD j true || (af.getD j []).contains i || (match os[j]? with|some oj=>kS os oi oj|none=>true)
theorem tW{os:List O}{af:List (List Nat)}{done:List Bool}{i j:Nat}(h:nE os af done i=true):nE os af (done.set j true) i=true:=by
  unfold nE at *
  split at h
  · cases h
  · rename_i oi hoi
    try simp only[hoi]
    rw[List.all_eq_true]at *
    intro k hk
    have:=h k hk
    simp only[Bool.or_eq_true]at this ⊢
    rcases this with((h1|h1)|h1)|h1
    · exact .inl (.inl (.inl h1))
    · by_cases hkj:j=k
      · subst hkj
        refine .inl (.inl (.inr ?_))
        by_cases hl:j<done.length
        · simp[List.getD_eq_getElem?_getD,List.getElem?_set_self hl]
        · simp[List.getD_eq_getElem?_getD,List.getElem?_eq_none (show(done.set j true).length≤j by simpa using Nat.not_lt.1 hl)]
      · exact .inl (.inl (.inr (by rw[cN true hkj];exact h1)))
    · exact .inl (.inr h1)
    · exact .inr h1
def gm(af:List (List Nat))(done:List Bool):Prop:=∀k,done.getD k false=true→∀e∈af.getD k [],done.getD e false=true
theorem lX(af:List (List Nat))(n:Nat):gm af (List.replicate n false):=by
  intro k hk
  simp only[List.getD_eq_getElem?_getD,List.getElem?_replicate]at hk
  split at hk<;>simp at hk
theorem hD{D:List Bool}:∀{l:List Nat} {S:List Bool},(∀e,S.getD e false=true→D.getD e false=true)→(∀e∈l,D.getD e false=true)→∀e,(l.foldl (fun S e=>S.set e true) S).getD e false=true→D.getD e false=true
  | [],S,h1,_,e,h=>h1 e h
  | a::l,S,h1,h2,e,h=>by
    refine hD (l:=l) (S:=S.set a true) (fun x hx=>?_) (fun x hx=>h2 x (List.mem_cons_of_mem _ hx)) e h
    by_cases hax:a=x
    · subst hax;exact h2 a (by simp)
    · rw[cN false hax]at hx;exact h1 x hx
theorem iw{af:List (List Nat)}{D:List Bool}(hc:gm af D):∀{n:Nat} {S:List Bool},(∀e,S.getD e false=true→D.getD e false=true)→∀e,(fX af n S).getD e false=true→D.getD e false=true
  | 0,S,h1,e,h=>h1 e h
  | n+1,S,h1,e,h=>by
    simp only[fX]at h
    refine iw hc (n:=n) (fun x hx=>?_) e h
    split at hx
    · rename_i hn;exact hD h1 (hc n (h1 n hn)) x hx
    · exact h1 x hx
theorem dH{af:List (List Nat)}{done:List Bool}{j:Nat}(hc:gm af done)(hj:∀e∈af.getD j [],done.getD e false=true):gm af (done.set j true):=by
  intro k hk e he
  by_cases h:j=k
  · subst h;exact eC (hj e he)
  · rw[cN false h]at hk;exact eC (hc k hk e he)
theorem vb{os:List O}{af:List (List Nat)}{done:List Bool}{i j:Nat}(hp:iA os i=false)(hc:gm af done)(hj:∀e∈af.getD j [],done.getD e false=true)(hi:done.getD i true=false):¬j7 os af (done.set i true) j=true:=by
  intro h
  have hil:i<done.length:=by
    rcases Nat.lt_or_ge i done.length with h'|h'
    · exact h'
    · simp[List.getD_eq_getElem?_getD,List.getElem?_eq_none h']at hi
  unfold j7 at h
  have h:=List.all_eq_true.1 h i (by simpa using hil)
  have e1:(done.set i true).getD i false=true:=by simp[List.getD_eq_getElem?_getD,List.getElem?_set_self hil]
  simp only[e1,hp,Bool.not_true,Bool.false_or]at h
  have h2:=iw hc (hD (fun e he=>by
    simp only[List.getD_eq_getElem?_getD,List.getElem?_replicate]at he
    split at he<;>simp at he) hj) i h
  simp[List.getD_eq_getElem?_getD,List.getElem?_eq_getElem hil]at h2 hi
  rw[h2]at hi;cases hi
theorem uw{os:List O}{af:List (List Nat)}{done:List Bool}{i j:Nat}(h:j7 os af (done.set i true) j=true):j7 os af done j=true:=by
  unfold j7 at *
  rw[List.all_eq_true]at *
  intro q hq
  have:=h q (by simpa using hq)
  by_cases hiq:i=q
  · subst hiq
    have hil:i<done.length:=by simpa using hq
    have e1:(done.set i true).getD i false=true:=by simp[List.getD_eq_getElem?_getD,List.getElem?_set_self hil]
    simp only[e1,Bool.not_true,Bool.false_or,List.length_set]at this
    cases hd:done.getD i false
    · simp
    · simpa using this
  · rw[cN false hiq,List.length_set]at this
    exact this
theorem pr{gl:Gl}{os:List O}{af:List (List Nat)}{K:St→Prop}{i:Nat}{oi:O}{v:AV}(hi:os[i]? = some oi)(hqi:quiet oi.op=true):
    ∀(fuel:Nat) (done:List Bool) (s:St),gm af done→nE os af done i=true→i∈ck os af done→QV Γ gl os oi v s→jI P Γ gl os af K fuel (done.set i true) (s.put oi.dst v)→
      jI P Γ gl os af K (fuel+1) done s:=by
  intro fuel
  induction fuel with
  | zero=>
    intro done s hc hf hr hv H
    refine⟨fun h=>(by rw[h]at hr;cases hr),fun j hj=>?_⟩
    by_cases hji:j=i
    · subst hji;exact hv.lP hi ⟨.inr (.inl (by rw[put_eq];exact Mem.env _ _)),H⟩
    · have:=gP hj hji
      rw[H.1]at this
      cases this
  | succ fuel ih=>
    intro done s hc hf hr hv H
    refine⟨fun h=>(by rw[h]at hr;cases hr),fun j hj=>?_⟩
    by_cases hji:j=i
    · subst hji;exact hv.lP hi ⟨.inr (.inl (by rw[put_eq];exact Mem.env _ _)),H⟩
    · have h1:=H.2 j (gP hj hji)
      obtain⟨hjl,hjun,hall⟩:=cm.1 hj
      have hoj:os[j]? = some os[j]:=List.getElem?_eq_getElem hjl
      have hap:kS os oi os[j]=true:=by
        unfold nE at hf
        simp only[hi]at hf
        have:=List.all_eq_true.1 hf j (List.mem_range.2 hjl)
        simp only[hoj,Bool.or_eq_true,beq_iff_eq,hji,hjun,Bool.false_eq_true,false_or,or_false]at this
        rcases this with h|h
        · have h0:=hall i (by simpa using h)
          have h2:=(cm.1 hr).2.1
          rcases Nat.lt_or_ge i done.length with h'|h'
          · simp[List.getD_eq_getElem?_getD,List.getElem?_eq_getElem h']at h0 h2;rw[h0]at h2;cases h2
          · simp[List.getD_eq_getElem?_getD,List.getElem?_eq_none h']at h0
        · exact h
      have hiu:=(cm.1 hr).2.1
      have hia:=(cm.1 hr).2.2
      have hil:i<done.length:=by
        rcases Nat.lt_or_ge i done.length with h'|h'
        · exact h'
        · simp[List.getD_eq_getElem?_getD,List.getElem?_eq_none h']at hiu
      have hif:done.getD i false=false:=by simpa[List.getD_eq_getElem?_getD,List.getElem?_eq_getElem hil]using hiu
      have areg:∀q r,iP os q=some r→tq os af q r=true→(∀e∈af.getD q [],done.getD e false=true)→(s.put oi.dst v).env.getD r .any=s.env.getD r .any:=by
        intro q r h1 h2 h3
        rw[put_eq]
        simp only[List.getD_eq_getElem?_getD]
        rw[pq]
        rintro x hx rfl
        have hilo:i<os.length:=ar hi
        have:=List.all_eq_true.1 h2 i (List.mem_range.2 hilo)
        simp only[hi,hx,bne_self_eq_false,Bool.false_or]at this
        have:=h3 i (by simpa using this)
        rw[hif]at this;cases this
      have h2:=xZ hoj hap hv (fun s' h=>by
        cases hp:iA os i with
        | true=>exact .inl (.inl (by simpa[iA,hi,hqi]using hp))
        | false=>
          rcases h.1.resolve_left (vb (i:=i) (j:=j) hp hc hall hiu)with h|k3
          · exact .inl (.inr h)
          · have e1:(done.set i true).getD i false=true:=by simp[List.getD_eq_getElem?_getD,List.getElem?_set_self hil]
            obtain⟨r,r1,r2,r3⟩:=k3 i (by simpa using hil) e1 (by
              cases hl:oM os af (done.set i true).length j i
              · rfl
              · exfalso
                simp only[oM,hp,Bool.false_or]at hl
                have h2:=iw hc (hD (fun e he=>by
                  simp only[List.getD_eq_getElem?_getD,List.getElem?_replicate]at he
                  split at he<;>simp at he) hall) i hl
                rw[hif]at h2;cases h2)
            rw[areg i r r1 r2 hia]at r3
            have hop:∃n b,oi.op=.load n b (.t r):=by
              unfold iP at r1
              rw[hi]at r1
              split at r1
              · rename_i x1 x2 n b r' hx
                injection hx with hx;subst hx
                injection r1 with r1;subst r1
                exact⟨n,b,rfl⟩
              · cases r1
            obtain⟨n,b,hop⟩:=hop
            rw[put_eq]at r3
            exact .inr ⟨n,b,r,hop,r3⟩) h1
      refine dy (fun s' h3=>⟨h3.2.1.imp uw (fun m=>m.imp (fun m=>by rw[put_eq,put_eq]at m;exact⟨m.1,m.2⟩) (fun k3 q hq hdq hlq=>by
        have hqi:i≠q:=fun e=>by subst e;rw[hif]at hdq;cases hdq
        obtain⟨r,r1,r2,r3⟩:=k3 q (by simpa using hq) (by rw[cN false hqi];exact hdq) (by rw[List.length_set];exact hlq)
        exact⟨r,r1,r2,by rw[areg q r r1 r2 (hc q hdq)]at r3;rw[put_eq,put_eq]at r3;exact r3⟩)),ih _ s' (dH hc hall) (tW hf) (gP hr (Ne.symm hji)) h3.1 ?_⟩) h2
      rw[List.set_comm _ _ hji]
      exact h3.2.2
theorem mg{ops:Array Oper}{os:List O}(hlen:os.length=ops.size){done:List Bool}(listed:Array Bool)(hd:listed.toList=done):
    Region.ready .any ops listed=ck os (ops.toList.map fun o=>o.after.toList.filterMap fun e=>if Region.binds .any e then some e.on else none) done:=by
  unfold Region.ready ck
  rw[hlen]
  refine List.filter_congr fun i hi=>?_
  subst hd
  have hl:i<ops.size:=List.mem_range.1 hi
  have:∀(j:Nat) (d:Bool),listed.getD j d=listed.toList.getD j d:=fun j d=>by simp[Array.getD_eq_getD_getElem?,List.getD_eq_getElem?_getD]
  simp only[this]
  congr 1
  simp only[List.getD_eq_getElem?_getD,List.getElem?_map,Array.getElem?_toList,Array.getElem?_eq_getElem hl,Option.map_some,Option.getD_some]
  rw[←Array.all_toList,Bool.eq_iff_iff,List.all_eq_true,List.all_eq_true]
  constructor
  · intro h x hx
    obtain⟨e,he,hx⟩:=List.mem_filterMap.1 hx
    split at hx
    · rename_i hb
      injection hx with hx
      subst hx
      have:=h e he
      simpa[hb]using this
    · cases hx
  · intro h e he
    by_cases hb:Region.binds .any e=true
    · have:=h e.on (List.mem_filterMap.2 ⟨e,he,by rw[if_pos hb]⟩)
      simpa[hb]using this
    · simp[hb]
theorem uz(cA:cn P Θ){ops:Array Oper}{os:List O}(hos:ops.toList.mapM (vj Θ)=some os)(gl:Gl){Q:Exit→Act→World→Prop}{K:St→Prop}{K':Act→World→Prop}
    {i:Nat} (hil:i<os.length) {s:St} {ρ₀ ls₀ h₀ w₀} (hK:∀s' ρ ls a w,ez ρ₀ ls₀ h₀ w₀ ρ ls s'.heap w→Rel Γ ρ ls s' a w→K s'→K' a w)
    {ρ ls a w} (ev:ez ρ₀ ls₀ h₀ w₀ ρ ls s.heap w) (rel:Rel Γ ρ ls s a w) (h:lP P Γ gl os i K s):wpOp P ops Q i K' a w:=by
  obtain⟨hlen,aS⟩:=dI hos
  have hop:i<ops.toList.length:=by omega
  obtain⟨o',ho1,ho2⟩:=aS i _ (List.getElem?_eq_getElem hop)
  have hoe:o'=os[i]:=by rw[List.getElem?_eq_getElem hil]at ho1;exact(Option.some.inj ho1).symm
  subst hoe
  have hopi:ops[i]? = some ops.toList[i]:=by rw[←Array.getElem?_toList,List.getElem?_eq_getElem hop]
  generalize hoo:ops.toList[i]=o at ho2 hopi
  have htr:CQ Θ o.op=some os[i].op∧os[i].dst=o.dst∧os[i].gd=o.guard:=by
    unfold vj at ho2
    cases hI:CQ Θ o.op with
    | none=>simp[hI]at ho2
    | some x=>simp[hI]at ho2;rw[←ho2];simp
  obtain⟨ht,hd,hg⟩:=htr
  unfold lP at h
  simp only[List.getElem?_eq_getElem hil]at h
  unfold wpOp
  simp only[hopi]
  have hguard:∀t,guardOf os s os[i].gd=some t→Region.wanted o (yielded ops a.tmps)=t:=by
    intro t hgd
    rw[hg]at hgd
    unfold guardOf at hgd
    unfold Region.wanted
    cases hog:o.guard with
    | none=>simp[hog]at hgd ⊢;exact hgd
    | some jw=>
      obtain⟨j,want⟩:=jw
      simp only[hog]at hgd ⊢
      have hdst:(os[j]?).bind (·.dst)=(ops[j]?).bind (·.dst):=by
        cases hoj:os[j]? with
        | none=>
          have:ops.toList.length≤j:=by
            rcases Nat.lt_or_ge j ops.toList.length with h|h
            · rw[List.getElem?_eq_getElem (by omega)]at hoj;cases hoj
            · exact h
          rw[Array.getElem?_eq_none (by simpa using this)];rfl
        | some oj=>
          have hj:=ar hoj
          obtain⟨o2,q1,q2⟩:=aS j _ (List.getElem?_eq_getElem (show j<ops.toList.length by omega))
          rw[hoj]at q1
          injection q1 with q1
          subst q1
          have:ops[j]? = some ops.toList[j]:=by rw[←Array.getElem?_toList,List.getElem?_eq_getElem]
          rw[this]
          unfold vj at q2
          rw[Option.map_eq_some_iff]at q2
          obtain⟨x,_,q3⟩:=q2
          rw[←q3];rfl
      rw[hdst]at hgd
      unfold yielded
      cases hb:(ops[j]?).bind (·.dst)with
      | none=>rw[hb]at hgd;simp at hgd;simp[hgd]
      | some d=>
        simp only[hb,Option.bind_some]at hgd ⊢
        cases hv:s.env[d]? with
        | none=>
          have:a.tmps[d]? = none:=by
            rcases Nat.lt_or_ge d s.env.length with h|h
            · rw[List.getElem?_eq_getElem h]at hv;cases hv
            · exact Array.getElem?_eq_none (by rw[←rel.size];exact h)
          simp[hv]at hgd
          simp[this,hgd]
        | some x=>
          have hr:=rel.env d x hv
          have hlt:d<a.tmps.size:=by rw[←rel.size];exact ar hv
          have hta:a.tmps[d]? = some (a.tmps.getD d undef):=by simp[hlt]
          rw[hta]
          generalize a.tmps.getD d undef=u at hr
          cases hr<;>simp[hv]at hgd<;>(try subst hgd)<;>simp
  cases hgd:guardOf os s os[i].gd with
  | none=>simp[hgd]at h
  | some t=>
    rw[hguard t hgd]
    simp only[hgd]at h
    obtain⟨hT,hF⟩:=h
    cases t with
    | false=>
      simp only[Bool.false_eq_true,if_false]
      have hrel:=hJ rel rfl rel.mem (.refl _ _ _ _) (da (ρ:=ρ) (ls:=ls)) os[i].dst
      rw[←hd]
      exact hK _ ρ ls _ w (by
        have:(s.put os[i].dst (.tup [])).heap=s.heap:=by cases os[i].dst<;>rfl
        rw[this];exact ev) hrel (hF rfl)
    | true=>
      simp only[if_true]
      refine .inl ?_
      have hs:=kJ cA ht rel (fC gl os[i])
      have hT:=hT rfl
      unfold Oper.wp
      cases hst:step Γ (fC gl os[i]) s os[i].op with
      | stuck=>simp[hst]at hT
      | val v s'=>
        rw[hst]at hs
        simp only[hst]at hT
        obtain⟨he,nx,cv,w',ρ',ls',hrun,hnx,hrv,hmem,hev⟩:=hs
        rw[hrun]
        have hrel:=hJ rel he hmem hev hrv os[i].dst
        have hnext:=hK _ ρ' ls' (a.put o.dst cv) w' (by
          have:(s'.put os[i].dst v).heap=s'.heap:=by cases os[i].dst<;>rfl
          rw[this];exact ev.trans hev) (by rw[←hd];exact hrel) hT
        rcases hnx with rfl|⟨rfl,rfl⟩
        · exact hnext
        · exact hnext
      | call f args=>
        rw[hst]at hs
        simp only[hst]at hT
        obtain⟨cargs,hrun,hra⟩:=hs
        obtain⟨hcal,hcalls⟩:=hT ρ ls w cargs rel.mem rel.glob hra
        rw[hrun,jn hcal]
        simp only[Oper.upon]
        refine hcalls.mono ?_
        rintro e w' ⟨cv,v,s',ρ',ls',rfl,he,hrv,hmem,hev,hk⟩
        have hrel:=hJ rel he hmem hev hrv os[i].dst
        exact hK _ ρ' ls' (a.put o.dst cv) w' (by
          have:(s'.put os[i].dst v).heap=s'.heap:=by cases os[i].dst<;>rfl
          rw[this];exact ev.trans hev) (by rw[←hd];exact hrel) hk
def FY(ops:Array Oper):List (List Nat):=ops.toList.map fun o=>o.after.toList.filterMap fun e=>if Region.binds .any e then some e.on else none
theorem pH(cA:cn P Θ){ops:Array Oper}{os:List O}(hos:ops.toList.mapM (vj Θ)=some os)(gl:Gl){Q:AE→St→Prop}{ρ₀ ls₀ h₀ w₀}:
    ∀(fuel:Nat) (listed:Array Bool) (done:List Bool) (s:St),listed.toList=done→jI P Γ gl os (FY ops) (Q .normal) fuel done s→∀ρ ls a w,ez ρ₀ ls₀ h₀ w₀ ρ ls s.heap w→Rel Γ ρ ls s a w→
      wpAny P .any ops (Sat Γ Q ρ₀ ls₀ h₀ w₀) fuel listed a w:=by
  have hlen:os.length=ops.size:=by have:=(dI hos).1;simpa using this
  intro fuel
  induction fuel with
  | zero=>
    intro listed done s hd h ρ ls a w ev rel
    exact⟨by rw[mg hlen listed hd];exact h.1,s,ρ,ls,rel,ev,h.2⟩
  | succ fuel ih=>
    intro listed done s hd h ρ ls a w ev rel
    refine⟨fun hr=>⟨s,ρ,ls,rel,ev,h.1 (by rw[mg hlen listed hd]at hr;exact hr)⟩,fun i hi=>?_⟩
    rw[mg hlen listed hd]at hi
    refine uz cA hos gl (cm.1 hi).1 ?_ ev rel (h.2 i hi)
    intro s' ρ' ls' a' w' ev' rel' hk
    exact ih _ _ s' (by rw[←hd];simp) hk.2 ρ' ls' a' w' ev' rel'
theorem sW(cA:cn P Θ)(hm:P.follows .mixedOrders=true)(gl:Gl){os:List O}{af:List (List Nat)}{Q:AE→St→Prop}{s:St}
    (h:jI P Γ gl os af (Q .normal) os.length (List.replicate os.length false) s):TC P Θ Γ (.regD os af) Q s:=by
  intro code hc
  cases code with
  | region id ops draw=>
    cases draw with
    | false=>
      simp only[fD,Option.map_eq_some_iff]at hc
      obtain⟨_,_,h⟩:=hc
      cases h
    | true=>
      simp only[fD,Option.map_eq_some_iff]at hc
      obtain⟨os',hos,hc⟩:=hc
      injection hc with h1 h2
      subst h1
      have h2:FY ops=af:=h2
      subst h2
      have hlen:os'.length=ops.size:=by have:=(dI hos).1;simpa using this
      intro ρ₀ ls₀ h₀ w₀ ρ ls a w ev rel
      refine wp_region_any hm (pH cA hos gl ops.size _ (List.replicate os'.length false) s (by simp[hlen]) (by rw[←hlen];exact h) ρ ls a _ ?_ ?_)
      · exact ev.trans (.pC rfl rfl rfl)
      · exact⟨rel.defers,rel.size,rel.env,rel.mem.pC rfl,rel.glob⟩
  | seq x y=>
    simp only[fD]at hc
    obtain⟨_,_,hc⟩:=dO hc
    rw[Option.map_eq_some_iff]at hc
    obtain⟨_,_,h⟩:=hc
    cases h
  | cond x y z=>
    simp only[fD]at hc
    obtain⟨_,_,hc⟩:=dO hc
    rw[Option.map_eq_some_iff]at hc
    obtain⟨_,_,h⟩:=hc
    cases h
  | block id x=>
    simp only[fD,Option.map_eq_some_iff]at hc
    obtain⟨_,_,h⟩:=hc
    cases h
  | loop x=>
    simp only[fD,Option.map_eq_some_iff]at hc
    obtain⟨_,_,h⟩:=hc
    cases h
  | _=>simp[fD]at hc
end
end Go.AM
namespace Go.AM
inductive D where
  | done
  | q (i:Nat) (d:D)
  | all (ds:List (Nat×D))
  | st (i:Nat) (rs:List Nat) (d:D)
  | mix (ds:List (Nat×Option (List Nat)×D))
  deriving Inhabited
def quietAt(os:List O)(i:Nat):Bool:=match os[i]? with|some o=>quiet o.op|none=>false
def si(os:List O)(af:List (List Nat))(done:List Bool)(i:Nat):Bool:=
  (List.range done.length).all fun q=>!(done.getD q false) || mc os q || (fX af i ((af.getD i []).foldl (fun S e=>S.set e true) (List.replicate done.length false))).getD q false
def r8(os:List O)(af:List (List Nat))(n i q:Nat):Bool:=
  mc os q || (fX af i ((af.getD i []).foldl (fun S e=>S.set e true) (List.replicate n false))).getD q false
theorem oe{os:List O}{q:Nat}(h:mc os q=true):iA os q=true:=by
  unfold mc at h;unfold iA
  split at h
  · rename_i o ho;simp[h]
  · cases h
theorem D3{os:List O}{af:List (List Nat)}{done:List Bool}{i:Nat}(h:si os af done i=true):j7 os af done i=true:=by
  unfold si at h;unfold j7
  rw[List.all_eq_true]at *
  intro q hq
  have:=h q hq
  simp only[Bool.or_eq_true]at this ⊢
  exact this.imp (fun h=>h.imp id oe) id
theorem yq{os:List O}{af:List (List Nat)}{n i q:Nat}(h:oM os af n i q=false):r8 os af n i q=false:=by
  unfold oM at h;unfold r8
  rw[Bool.or_eq_false_iff]at *
  refine⟨?_,h.2⟩
  cases hp:mc os q
  · rfl
  · rw[oe hp]at h;cases h.1
def isApp(os:List O)(i:Nat):Bool:=match os[i]? with|some ⟨_,_,.app _ _ _ _ _ _⟩=>true|some ⟨_,_,.store _ _ _⟩=>true|some ⟨_,_,.appz _ _ _ _ _⟩=>true|some ⟨_,_,.clr _ _ _⟩=>true|_=>false
def sj(os:List O)(af:List (List Nat))(done:List Bool)(i:Nat):Option (List Nat):=
  (((List.range done.length).filter fun q=>done.getD q false && !(r8 os af done.length i q)).mapM fun q=>match iP os q with|some r=>if tq os af q r=true then some r else none|none=>none)
def ky(os:List O)(af:List (List Nat))(done:List Bool)(i:Nat):Option (List Nat):=
  if isApp os i=true then (((List.range done.length).filter fun q=>done.getD q false && !(oM os af done.length i q)).mapM fun q=>match iP os q with|some r=>if tq os af q r=true then some r else none|none=>none)else none
def yU(os:List O)(i:Nat):Bool:=match os[i]? with|some ⟨_,_,.store _ (.t _) _⟩=>true|some ⟨_,_,.app _ _ _ _ _ _⟩=>true|some ⟨_,_,.call _ _⟩=>true|_=>false
def sched(os:List O)(af:List (List Nat)):Nat→List Bool→Option D
  | 0,done=>if (ck os af done).isEmpty=true then some .done else none
  | fuel+1,done=>
    match (ck os af done).find? (fun i=>quietAt os i && nE os af done i)with
    | some i=>(sched os af fuel (done.set i true)).map (.q i)
    | none=>if (ck os af done).isEmpty=true then some .done else match (ck os af done).find? (fun i=>ck os af done == [i] && si os af done i)with
      | some i=>(sched os af fuel (done.set i true)).map (.q i)
      | none=>match (ck os af done).find? (fun i=>ck os af done == [i] && yU os i && (sj os af done i).isSome)with
      | some i=>(sched os af fuel (done.set i true)).map (.st i ((sj os af done i).getD []))
      | none=>if ((ck os af done).any fun i=>(ky os af done i).isSome)=true then
          ((ck os af done).mapM fun i=>(sched os af fuel (done.set i true)).map fun d=>(i,ky os af done i,d)).map .mix
        else ((ck os af done).mapM fun i=>(sched os af fuel (done.set i true)).map fun d=>(i,d)).map .all
section
variable (P:Program) (Θ:gQ) (Γ:aZ)
def kK(f:Nat→D→Prop):List (Nat×D)→Prop
  | []=>True
  | (i,d)::r=>f i d∧kK f r
def jd(f:Nat→Option (List Nat)→D→Prop):List (Nat×Option (List Nat)×D)→Prop
  | []=>True
  | (i,b,d)::r=>f i b d∧jd f r
def bK(gl:Gl)(os:List O)(K:St→Prop):Nat→D→St→Prop
  | 0,.done,s=>K s
  | _+1,.done,s=>K s
  | n+1,.q i d,s=>lP P Γ gl os i (bK gl os K n d) s
  | n+1,.st i rs d,s=>lP P Γ gl os i (fun s'=>ij rs s s'∧bK gl os K n d s') s
  | n+1,.all ds,s=>kK (fun i d=>lP P Γ gl os i (fun s'=>Mem s s'∧bK gl os K n d s') s) ds
  | n+1,.mix ds,s=>jd (fun i b d=>lP P Γ gl os i (fun s'=>(match b with|some rs=>ij rs s s'|none=>Mem s s')∧bK gl os K n d s') s) ds
  | 0,_,_=>False
def aw(gl:Gl):C→(AE→St→Prop)→St→Prop
  | .skip,Q,s=>Q .normal s
  | .reg os,Q,s=>cC P Γ gl os os (Q .normal) s
  | .regD os af,Q,s=>match sched os af os.length (List.replicate os.length false)with
    | some d=>bK P Γ gl os (Q .normal) os.length d s
    | none=>False
  | .seq a b,Q,s=>aw gl a (eQ (aw gl b Q) Q) s
  | .cond c a b,Q,s=>match s.eval Γ c with|.bool t=>br t (aw gl a Q s) (aw gl b Q s)|_=>False
  | .block id c,Q,s=>aw gl c (dX id Q) s
  | .loop c,Q,s=>TC P Θ Γ (.loop c) Q s
  | .exit id,Q,s=>Q (.exit id) s
  | .ret,Q,s=>Q .ret s
end
section
variable {P:Program} {Θ:gQ} {Γ:aZ}
theorem dB{os:List O}{af:List (List Nat)}{done:List Bool}{p:Nat→Bool}{i:Nat}(h:(ck os af done).find? p=some i):i∈ck os af done∧p i=true:=
  ⟨List.mem_of_find?_eq_some h,List.find?_some h⟩
theorem xJ{gl:Gl}{os:List O}{i:Nat}{K:St→Prop}{s:St}(hq:quietAt os i=true)(h:lP P Γ gl os i K s):∃o v,os[i]? = some o∧QV Γ gl os o v s∧K (s.put o.dst v):=by
  unfold lP at h
  unfold quietAt at hq
  cases ho:os[i]? with
  | none=>simp[ho]at hq
  | some o=>
    simp only[ho]at h hq
    refine⟨o,?_⟩
    cases hg:guardOf os s o.gd with
    | none=>simp[hg]at h
    | some t=>
      simp only[hg]at h
      cases t with
      | true=>
        have h:=h.1 rfl
        cases hs:step Γ (fC gl o) s o.op with
        | val v s'=>
          rw[hs]at h
          have:=(mj hq hs).1
          subst this
          exact⟨v,rfl,.inl ⟨hg,hq,hs⟩,h⟩
        | call f args=>
          exfalso
          cases hop:o.op<;>rw[hop]at hq hs<;>(try (simp only[quiet]at hq;cases hq))<;>simp only[step]at hs
          all_goals (first|(cases hs;done)|skip)
          all_goals (try (split at hs))
          all_goals (first|(cases hs;done)|skip)
          all_goals (unfold AR.cZ at hs;split at hs<;>cases hs)
        | stuck=>rw[hs]at h;exact h.elim
      | false=>exact⟨.tup [],rfl,.inr ⟨hg,rfl⟩,h.2 rfl⟩
theorem mapM_mem{α β:Type}{f:α→Option β}:∀{l:List α} {r:List β},l.mapM f=some r→∀x∈l,∃y∈r,f x=some y
  | [],_,_,x,hx=>by simp at hx
  | a::l,r,h,x,hx=>by
    rw[List.mapM_cons]at h
    cases ha:f a with
    | none=>simp[ha]at h
    | some b=>
      cases hl:l.mapM f with
      | none=>simp[ha,hl]at h
      | some bs=>
        simp[ha,hl]at h
        subst h
        rcases List.mem_cons.1 hx with rfl|hx
        · exact⟨b,by simp,ha⟩
        · obtain⟨y,hy,hf⟩:=mapM_mem hl x hx
          exact⟨y,by simp[hy],hf⟩
theorem oQ{f:Nat→D→Prop}:∀{l:List (Nat×D)},kK f l→∀i d,(i,d)∈l→f i d
  | (j,e)::r,h,i,d,hm=>by
    rcases List.mem_cons.1 hm with h1|h1
    · injection h1 with h1 h2;subst h1;subst h2;exact h.1
    · exact oQ h.2 i d h1
theorem mY{f:Nat→Option (List Nat)→D→Prop}:∀{l:List (Nat×Option (List Nat)×D)},jd f l→∀i b d,(i,b,d)∈l→f i b d
  | (j,c,e)::r,h,i,b,d,hm=>by
    rcases List.mem_cons.1 hm with h1|h1
    · simp only[Prod.mk.injEq]at h1;obtain⟨rfl,rfl,rfl⟩:=h1;exact h.1
    · exact mY h.2 i b d h1
theorem ya{os:List O}{af:List (List Nat)}{done:List Bool}{i:Nat}{rs:List Nat}{s s':St}(h:sj os af done i=some rs)(k:ij rs s s'):vn os af done i s s':=by
  intro q hq hd hl
  obtain⟨r,hr,hf⟩:=mapM_mem h q (List.mem_filter.2 ⟨List.mem_range.2 hq,by rw[hd,yq hl];rfl⟩)
  split at hf
  · rename_i r' ha
    split at hf
    · rename_i hs
      injection hf with hf;subst hf
      exact⟨r',ha,hs,k r' hr⟩
    · cases hf
  · cases hf
theorem uV{os:List O}{af:List (List Nat)}{done:List Bool}{i:Nat}{rs:List Nat}{s s':St}(h:ky os af done i=some rs)(k:ij rs s s'):vn os af done i s s':=by
  unfold ky at h
  split at h
  · intro q hq hd hl
    obtain⟨r,hr,hf⟩:=mapM_mem h q (List.mem_filter.2 ⟨List.mem_range.2 hq,by rw[hd,hl];rfl⟩)
    split at hf
    · rename_i r' ha
      split at hf
      · rename_i hs
        injection hf with hf;subst hf
        exact⟨r',ha,hs,k r' hr⟩
      · cases hf
    · cases hf
  · cases h
theorem ml{gl:Gl}{os:List O}{af:List (List Nat)}{K:St→Prop}:∀(fuel:Nat) (done:List Bool) (d:D) (s:St),gm af done→sched os af fuel done=some d→bK P Γ gl os K fuel d s→jI P Γ gl os af K fuel done s:=by
  intro fuel
  induction fuel with
  | zero=>
    intro done d s hc hs h
    simp only[sched]at hs
    split at hs
    · rename_i he
      injection hs with hs
      subst hs
      exact⟨by simpa using he,h⟩
    · cases hs
  | succ fuel ih=>
    intro done d s hc hs h
    simp only[sched]at hs
    split at hs
    · rename_i i hf
      obtain⟨hr,hp⟩:=dB hf
      simp only[Bool.and_eq_true]at hp
      rw[Option.map_eq_some_iff]at hs
      obtain⟨d',hd,rfl⟩:=hs
      simp only[bK]at h
      obtain⟨o,v,ho,hv,hk⟩:=xJ hp.1 h
      exact pr ho (by simpa[quietAt,ho]using hp.1) fuel done s hc hp.2 hr hv (ih _ d' _ (dH hc (cm.1 hr).2.2) hd hk)
    · split at hs
      · rename_i he
        injection hs with hs
        subst hs
        have he:ck os af done=[]:=by simpa using he
        exact⟨fun _=>h,by rw[he];simp⟩
      · rename_i he
        split at hs
        · rename_i i hf
          obtain⟨hr,hp⟩:=dB hf
          simp only[Bool.and_eq_true,beq_iff_eq]at hp
          rw[Option.map_eq_some_iff]at hs
          obtain⟨d',hd,rfl⟩:=hs
          simp only[bK]at h
          refine⟨fun hn=>absurd (by simp[hn]) he,fun j hj=>?_⟩
          have hji:j=i:=by rw[hp.1]at hj;simpa using hj
          subst hji
          exact dy (fun s' hs=>⟨.inl (D3 hp.2),ih _ _ s' (dH hc (cm.1 hr).2.2) hd hs⟩) h
        split at hs
        · rename_i i hf
          obtain⟨hr,hp⟩:=dB hf
          simp only[Bool.and_eq_true,beq_iff_eq]at hp
          rw[Option.map_eq_some_iff]at hs
          obtain⟨d',hd,rfl⟩:=hs
          simp only[bK]at h
          refine⟨fun hn=>absurd (by simp[hn]) he,fun j hj=>?_⟩
          have hji:j=i:=by rw[hp.1.1]at hj;simpa using hj
          subst hji
          obtain⟨rs,hrs⟩:=Option.isSome_iff_exists.1 hp.2
          rw[hrs]at h
          exact dy (fun s' hs=>⟨.inr (.inr (ya hrs hs.1)),ih _ _ s' (dH hc (cm.1 hr).2.2) hd hs.2⟩) h
        split at hs
        · rw[Option.map_eq_some_iff]at hs
          obtain⟨ds,hd,rfl⟩:=hs
          simp only[bK]at h
          refine⟨fun hn=>absurd (by simp[hn]) he,fun i hi=>?_⟩
          obtain⟨⟨j,b,d⟩,hm,hf⟩:=mapM_mem hd i hi
          rw[Option.map_eq_some_iff]at hf
          obtain⟨d',h1,h2⟩:=hf
          simp only[Prod.mk.injEq]at h2
          obtain⟨h2,h3,h4⟩:=h2
          subst h2;subst h4
          refine dy (fun s' hs=>⟨?_,ih _ _ s' (dH hc (cm.1 hi).2.2) h1 hs.2⟩) (mY h _ _ _ hm)
          cases b with
          | some rs=>exact .inr (.inr (uV h3 hs.1))
          | none=>exact .inr (.inl hs.1)
        rw[Option.map_eq_some_iff]at hs
        obtain⟨ds,hd,rfl⟩:=hs
        simp only[bK]at h
        refine⟨fun hn=>absurd (by simp[hn]) he,fun i hi=>?_⟩
        obtain⟨⟨j,d⟩,hm,hf⟩:=mapM_mem hd i hi
        rw[Option.map_eq_some_iff]at hf
        obtain⟨d',h1,h2⟩:=hf
        injection h2 with h2 h3
        subst h2;subst h3
        exact dy (fun s' hs=>⟨.inr (.inl hs.1),ih _ _ s' (dH hc (cm.1 hi).2.2) h1 hs.2⟩) (oQ h _ _ hm)
theorem dT{gl:Gl}{all:List O}:∀(os:List O) {K K':St→Prop} (s:St),(∀s,K s→K' s)→cC P Γ gl all os K s→cC P Γ gl all os K' s
  | [],_,_,s,hk,h=>hk s h
  | o::r,_,_,s,hk,h=>by
    simp only[cC]at h ⊢
    split
    · rename_i hg;simp[hg]at h
    · rename_i t hg
      simp only[hg]at h
      refine⟨fun ht=>?_,fun ht=>dT r _ hk (h.2 ht)⟩
      have h:=h.1 ht
      split
      · rename_i hs;rw[hs]at h;exact dT r _ hk h
      · rename_i hs;rw[hs]at h;exact h.mono fun _ s' h=>dT r _ hk h
      · rename_i hs;rw[hs]at h;exact h
theorem me{gl:Gl}:∀(c:C) {Q Q':AE→St→Prop} (s:St),(∀e s,Q e s→Q' e s)→qJ P Θ Γ gl c Q s→qJ P Θ Γ gl c Q' s:=by
  intro c
  induction c with
  | skip=>exact fun s hq h=>hq _ s h
  | reg os=>exact fun s hq h=>dT os s (hq _) h
  | regD os af=>exact fun s hq h=>h.mono hq
  | seq a b iha ihb=>exact fun s hq h=>iha s (fun e s he=>by cases e<;>simp only[eQ]at he ⊢<;>first|exact ihb s hq he|exact hq _ _ he) h
  | cond c a b iha ihb=>
    intro Q Q' s hq h
    simp only[qJ]at h ⊢
    split at h
    · exact⟨fun ht=>iha s hq (h.1 ht),fun ht=>ihb s hq (h.2 ht)⟩
    · exact h.elim
  | block id c ih=>exact fun s hq h=>ih s (fun e s he=>by cases e<;>simp only[dX]at he ⊢<;>(try split)<;>simp_all) h
  | loop c=>exact fun s hq h=>h.mono hq
  | exit id=>exact fun s hq h=>hq _ s h
  | ret=>exact fun s hq h=>hq _ s h
theorem ax(cA:cn P Θ)(hm:P.follows .mixedOrders=true)(gl:Gl):∀(c:C) (Q:AE→St→Prop) (s:St),aw P Θ Γ gl c Q s→TC P Θ Γ c Q s:=by
  suffices h:∀(c:C) (Q:AE→St→Prop) (s:St),aw P Θ Γ gl c Q s→qJ P Θ Γ gl c Q s from fun c Q s ha=>TC.Da cA gl (h c Q s ha)
  intro c
  induction c with
  | skip=>exact fun _ _ h=>h
  | reg os=>exact fun _ _ h=>h
  | regD os af=>
    intro Q s h
    simp only[aw]at h
    split at h
    · rename_i d hd
      exact sW cA hm gl (ml _ _ d s (lX _ _) hd h)
    · exact h.elim
  | seq a b iha ihb=>
    intro Q s h
    exact me a s (fun e s he=>by cases e<;>simp only[eQ]at he ⊢<;>first|exact ihb Q s he|exact he) (iha _ s h)
  | cond c a b iha ihb=>
    intro Q s h
    simp only[aw,qJ]at h ⊢
    split at h
    · rename_i t ht
      simp only[ht]
      exact⟨fun ht=>iha Q s (h.1 ht),fun ht=>ihb Q s (h.2 ht)⟩
    · exact h.elim
  | block id c ih=>exact fun Q s h=>ih _ s h
  | loop c=>exact fun _ _ h=>h
  | exit id=>exact fun _ _ h=>h
  | ret=>exact fun _ _ h=>h
end
end Go.AM
