import Derived.Test.YtdlbaonelfcahaaGreatDoorAmG4
set_option linter.unusedVariables false
set_option linter.unusedSimpArgs false
namespace Go.AM
def quiet:I→Bool
  | .alloc _|.box _|.bsl .. | .store .. | .cvb _|.mks .. | .app .. | .appz .. | .clr .. | .copy .. | .call .. | .bad=>false
  | _=>true
def mZ:I→Bool
  | .load .. | .cvt _=>false
  | i=>quiet i
def X.tm:X→List Nat|.t n=>[n]|_=>[]
def MP(xs:List X):List Nat:=xs.flatMap X.tm
def oT:Option X→List Nat|some x=>x.tm|none=>[]
def looks:I→List Nat
  | .mov x|.box x|.nilchk x|.un _ x|.cvi _ x|.cvs x|.cvb x|.cvt x|.fld _ x|.extr x _|.len _ x|.cap x|.clr _ _ x=>x.tm
  | .pick c a b=>c.tm++(a.tm++b.tm)
  | .alloc _|.lenc _=>[]
  | .build _ ps=>ps.flatMap fun p=>p.2.2.tm
  | .bsl _ _ _ ps=>ps.flatMap fun p=>p.2.tm
  | .load _ _ a=>a.tm
  | .store _ a v=>a.tm++v.tm
  | .bin _ _ x y=>x.tm++y.tm
  | .mkf _ a b=>MP a++MP b
  | .mks _ _ _ l c|.appz _ _ _ l c=>l.tm++c.tm
  | .slice _ x lo hi mx=>x.tm++(oT lo++(oT hi++oT mx))
  | .idxs _ x i|.idxa _ _ x i|.idxstr x i|.idxagg _ _ _ x i=>x.tm++i.tm
  | .app _ _ _ _ x y|.copy _ _ x y=>x.tm++y.tm
  | .mm _ xs=>MP xs
  | .call f args=>f.tm++MP args
  | .bad=>[]
def jm(os:List O)(o:O):List Nat:=
  looks o.op++match o.gd with|some (j,_)=>((os[j]?).bind (·.dst)).toList|none=>[]
section
variable {P:Program} {Θ:jL} {Γ:bG}
def AR.xU(e:List AV):AR→AR
  | .val v s=>.val v { s with env:=e }
  | r=>r
theorem bt{s:St}{e:List AV}{x:X}(h:∀t∈x.tm,e[t]? = s.env[t]?):({ s with env:=e }:St).eval Γ x=s.eval Γ x:=by
  cases x with
  | t n=>simp[St.eval,List.getD_eq_getElem?_getD,h n (by simp[X.tm])]
  | c v=>rfl
  | g n=>rfl
theorem kl{s:St}{e:List AV}{xs:List X}(h:∀t∈MP xs,e[t]? = s.env[t]?):xs.map (({ s with env:=e }:St).eval Γ)=xs.map (s.eval Γ):=
  List.map_congr_left fun x hx=>bt fun t ht=>h t (List.mem_flatMap.2 ⟨x,hx,ht⟩)
theorem uA{s:St}{e:List AV}{d:Nat}{o:Option X}(h:∀t∈oT o,e[t]? = s.env[t]?):oM Γ { s with env:=e } d o=oM Γ s d o:=by
  cases o with
  | none=>rfl
  | some x=>simp only[oM];rw[bt h]
theorem zZ{s:St}{e:List AV}(a:AV)(n:Nat):({ s with env:=e }:St).cells a n=s.cells a n:=by cases a<;>rfl
theorem pO{s:St}{e:List AV}(n:Nat)(a:AV):({ s with env:=e }:St).bl n a=s.bl n a:=by cases a<;>rfl
theorem mf{s:St}{e:List AV}(a:AV)(cs:List AV):({ s with env:=e }:St).store a cs=(s.store a cs).map fun s'=>{ s' with env:=e }:=by
  cases a<;>try rfl
  case lp i off=>
    simp only[St.store]
    cases s.loc[i]? with
    | none=>rfl
    | some l=>simp only[Option.bind_some];split<;>(try split)<;>rfl
  case gp b g off=>
    simp only[St.store]
    cases bA s.heap b with
    | none=>rfl
    | some l=>simp only[Option.bind_some];split<;>(try split)<;>(try split)<;>rfl
theorem lY{s:St}{e:List AV}(n:Nat)(b:Bool)(a:AV):cH { s with env:=e } n b a=cH s n b a:=by
  cases b<;>cases a<;>rfl
theorem Aw{s:St}{e:List AV}(sz bytes:Nat)(z:List AV)(n:Int):wV { s with env:=e } sz bytes z n=(wV s sz bytes z n).map fun p=>(p.1,{ p.2 with env:=e }):=by
  unfold wV
  split
  · split<;>rfl
  · rfl
theorem BD{s:St}{e:List AV}(sz bytes:Nat)(z:List AV)(ln cp:Int):xw { s with env:=e } sz bytes z ln cp=(xw s sz bytes z ln cp).map fun p=>(p.1,{ p.2 with env:=e }):=by
  unfold xw
  split
  · split<;>rfl
  · rfl
theorem BF{s:St}{e:List AV}(sz bytes:Nat)(x:AV)(ys:List AV)(n m:Nat):iW { s with env:=e } sz bytes x ys n m=(iW s sz bytes x ys n m).map fun p=>(p.1,{ p.2 with env:=e }):=by
  unfold iW
  split
  · rfl
  split
  · rfl
  cases x<;>try rfl
  · simp only
    split
    · rfl
    split<;>rfl
  · simp only
    cases bA s.heap _ with
    | none=>rfl
    | some l=>
      simp only[Option.bind_some]
      split
      · split
        · split
          · split
            · split<;>rfl
            · cases sub l.2 _ _<;>rfl
          · rfl
        · rfl
      · rfl
  · simp only
    split
    · rfl
    split
    · split
      · split
        · split<;>rfl
        · rfl
      · rfl
    · rfl
theorem AP{s:St}{e:List AV}(sz:Nat)(z:List AV)(x:AV):xm { s with env:=e } sz z x=(xm s sz z x).map fun s'=>{ s' with env:=e }:=by
  unfold xm
  split
  · rfl
  · split
    · rfl
    · split
      · exact mf _ _
      · rfl
  · rfl
  · rfl
theorem Af{s:St}{e:List AV}(sz:Nat)(x:AV)(ys:List AV)(n:Nat):zD { s with env:=e } sz x ys n=(zD s sz x ys n).map fun p=>(p.1,{ p.2 with env:=e }):=by
  unfold zD
  split
  · rfl
  · split
    · rw[mf];simp[Option.map_map,Function.comp_def]
    · rfl
  · rfl
theorem eD{s:St}{e:List AV}(o:Option AV):AR.eI { s with env:=e } o=(AR.eI s o).xU e:=by cases o<;>rfl
theorem zq{e:List AV}(o:Option St):AR.AG (o.map fun s'=>{ s' with env:=e })=(AR.AG o).xU e:=by cases o<;>rfl
theorem oC{e:List AV}(o:Option (AV×St)):AR.Al (o.map fun p=>(p.1,{ p.2 with env:=e }))=(AR.Al o).xU e:=by cases o<;>rfl
theorem pA{s:St}{e:List AV}{gl:Bool}(i:I)(h:∀t∈looks i,e[t]? = s.env[t]?):step Γ gl { s with env:=e } i=(step Γ gl s i).xU e:=by
  cases i<;>simp only[looks,List.mem_append]at h<;>simp only[step]
  case mov x=>rw[bt h];rfl
  case pick c a b=>
    rw[bt (x:=c) fun t ht=>h t (.inl ht),bt (x:=a) fun t ht=>h t (.inr (.inl ht)),bt (x:=b) fun t ht=>h t (.inr (.inr ht))]
    cases s.eval Γ c<;>rfl
  case alloc z=>split<;>(try split)<;>rfl
  case box x=>
    rw[bt h]
    cases cellsOf (s.eval Γ x)with
    | none=>rfl
    | some cs=>simp only;split<;>(try split)<;>rfl
  case build z ps=>
    rw[List.map_congr_left (g:=fun p:Nat×Nat×X=>(p.1,p.2.1,s.eval Γ p.2.2)) fun p hp=>by rw[bt fun t ht=>h t (List.mem_flatMap.2 ⟨p,hp,ht⟩)]]
    exact eD _
  case bsl sz len z ps=>
    rw[List.map_congr_left (g:=fun p:Nat×X=>(p.1*sz,sz,s.eval Γ p.2)) fun p hp=>by rw[bt fun t ht=>h t (List.mem_flatMap.2 ⟨p,hp,ht⟩)]]
    cases eV _ _ with
    | none=>rfl
    | some cs=>simp only;split<;>rfl
  case load n agg a=>rw[bt h,zZ];exact eD _
  case store n a v=>
    rw[bt (x:=v) fun t ht=>h t (.inr ht),bt (x:=a) fun t ht=>h t (.inl ht)]
    cases cellsOf (s.eval Γ v)with
    | none=>rfl
    | some cs=>
      simp only
      split
      · rw[mf];exact zq _
      · rfl
  case nilchk x=>
    rw[bt h]
    cases isNil (s.eval Γ x)with
    | none=>rfl
    | some b=>cases b<;>rfl
  case bin op ek x y=>rw[bt (x:=x) fun t ht=>h t (.inl ht),bt (x:=y) fun t ht=>h t (.inr ht)];exact eD _
  case un op x=>rw[bt h];exact eD _
  case cvi k x=>rw[bt h];cases s.eval Γ x<;>rfl
  case cvs x=>rw[bt h];cases s.eval Γ x<;>rfl
  case cvb x=>
    rw[bt h]
    cases s.eval Γ x<;>try rfl
    simp only
    split<;>rfl
  case cvt x=>rw[bt h,pO];exact eD _
  case mkf f first caps=>rw[kl fun t ht=>h t (.inl ht),kl fun t ht=>h t (.inr ht)];rfl
  case mks sz bytes z l c=>
    rw[bt (x:=l) fun t ht=>h t (.inl ht),bt (x:=c) fun t ht=>h t (.inr ht)]
    cases s.eval Γ l<;>try rfl
    cases s.eval Γ c<;>try rfl
    simp only
    rw[BD];exact oC _
  case appz sz bytes z l c=>
    rw[bt (x:=l) fun t ht=>h t (.inl ht),bt (x:=c) fun t ht=>h t (.inr ht)]
    cases s.eval Γ l<;>try rfl
    cases s.eval Γ c<;>try rfl
    simp only
    rw[Aw];exact oC _
  case slice k x lo hi mx=>
    rw[bt (x:=x) fun t ht=>h t (.inl ht),uA (o:=lo) fun t ht=>h t (.inr (.inl ht))]
    have e1:∀y,hi=some y→oM Γ { s with env:=e } 0 (some y)=oM Γ s 0 (some y):=fun y hy=>uA (o:=some y) fun t ht=>h t (.inr (.inr (.inl (by rw[hy];exact ht))))
    have e2:∀y,mx=some y→oM Γ { s with env:=e } 0 (some y)=oM Γ s 0 (some y):=fun y hy=>uA (o:=some y) fun t ht=>h t (.inr (.inr (.inr (by rw[hy];exact ht))))
    cases hi<;>cases mx<;>(first|simp only[e1 _ rfl,e2 _ rfl]|simp only[e1 _ rfl]|simp only[e2 _ rfl]|dsimp only)<;>(split<;>first|exact eD _|rfl)
  case fld off x=>rw[bt h];exact eD _
  case idxs sz x i=>
    rw[bt (x:=x) fun t ht=>h t (.inl ht),bt (x:=i) fun t ht=>h t (.inr ht)]
    cases s.eval Γ i<;>try rfl
    exact eD _
  case idxa n sz x i=>
    rw[bt (x:=x) fun t ht=>h t (.inl ht),bt (x:=i) fun t ht=>h t (.inr ht)]
    cases s.eval Γ i<;>try rfl
    exact eD _
  case idxstr x i=>
    rw[bt (x:=x) fun t ht=>h t (.inl ht),bt (x:=i) fun t ht=>h t (.inr ht)]
    split
    · exact eD _
    · rfl
  case idxagg n sz agg x i=>
    rw[bt (x:=x) fun t ht=>h t (.inl ht),bt (x:=i) fun t ht=>h t (.inr ht)]
    split
    · exact eD _
    · rfl
  case extr x i=>
    rw[bt h]
    cases s.eval Γ x<;>try rfl
    exact eD _
  case len str x=>rw[bt h];exact eD _
  case lenc n=>rfl
  case cap x=>
    rw[bt h]
    split<;>first|rfl|(rename_i h1;cases h1)
  case app sz bytes z str x y=>
    rw[bt (x:=x) fun t ht=>h t (.inl ht),bt (x:=y) fun t ht=>h t (.inr ht),lY]
    split
    · rw[BF];exact oC _
    · rfl
  case clr sz z x=>rw[bt h,AP];exact zq _
  case copy sz str x y=>
    rw[bt (x:=x) fun t ht=>h t (.inl ht),bt (x:=y) fun t ht=>h t (.inr ht),lY]
    split
    · rw[Af];exact oC _
    · rfl
  case mm mx xs=>rw[kl h];exact eD _
  case bad=>rfl
  case call f args=>
    rw[bt (x:=f) fun t ht=>h t (.inl ht),kl fun t ht=>h t (.inr ht)]
    cases s.eval Γ f<;>rfl
def Mem(s s':St):Prop:=(∀(i:Nat) l,s.loc[i]? = some l→s'.loc[i]? = some l)∧∀b e,bA s.heap b=some e→bA s'.heap b=some e
theorem Mem.refl(s:St):Mem s s:=⟨fun _ _ h=>h,fun _ _ h=>h⟩
theorem Mem.loc(s:St)(env:List AV)(l:List (List AV)):Mem s ⟨env,s.loc++l,s.heap⟩:=
  ⟨fun i x h=>by rw[List.getElem?_append_left (aK h)];exact h,fun _ _ h=>h⟩
theorem Mem.heap(s:St)(env:List AV)(l:AH):Mem s ⟨env,s.loc,s.heap++l⟩:=
  ⟨fun _ _ h=>h,fun b x h=>by have h:=b6 h;exact vB (by rw[List.getElem?_append_left (aK h)];exact h)⟩
theorem Mem.env(s:St)(env:List AV):Mem s ⟨env,s.loc,s.heap⟩:=⟨fun _ _ h=>h,fun _ _ h=>h⟩
theorem rG{s s':St}(m:Mem s s'){a:AV}{n:Nat}{cs:List AV}(h:s.cells a n=some cs):s'.cells a n=some cs:=by
  cases a<;>simp only[St.cells]at h ⊢<;>try exact h
  · obtain⟨l,h1,h2⟩:=gB h
    rw[m.1 _ _ h1];exact h2
  · obtain⟨l,h1,h2⟩:=gB h
    rw[m.2 _ _ h1];exact h2
theorem qi{s s':St}(m:Mem s s'){a:AV}{n:Nat}{cs:List AV}(h:s.bl n a=some cs):s'.bl n a=some cs:=by
  cases a
  case opq v=>
    have e:∀t:St,t.bl n (.opq v)=(⟨[],[],[]⟩:St).bl n (.opq v):=fun t=>by
      unfold St.bl
      split<;>first|rfl|(rename_i he;cases he;done)|skip
    rw[e]at h ⊢;exact h
  case gs=>
    simp only[St.bl]at h ⊢
    split at h
    · rename_i hs
      rw[if_pos hs]
      obtain⟨l,h1,h2⟩:=gB h
      rw[m.2 _ _ h1];exact h2
    · cases h
  all_goals (simp only[St.bl]at h ⊢<;>exact h)
theorem oJ{s s':St}{o:Option AV}{v:AV}(h:AR.eI s o=.val v s'):s'=s∧o=some v:=by
  cases o with
  | none=>simp[AR.eI]at h
  | some x=>simp[AR.eI]at h;exact⟨h.2.symm,by rw[h.1]⟩
theorem pV{s s1:St}{gl:Bool}{i:I}{v:AV}(hq:quiet i=true)(h:step Γ gl s i=.val v s1):
    s1=s∧∀s':St,s'.env=s.env→(mZ i=true∨Mem s s')→step Γ gl s' i=.val v s':=by
  have ev:∀(s':St),s'.env=s.env→s'.eval Γ=s.eval Γ:=fun s' he=>by
    funext x;cases x<;>simp[St.eval,he]
  have bn:∀(s':St),s'.env=s.env→∀d o,oM Γ s' d o=oM Γ s d o:=fun s' he d o=>by
    cases o<;>simp[oM,ev s' he]
  have fin:∀{o:Option AV},AR.eI s o=.val v s1→s1=s∧∀s':St,AR.eI s' o=.val v s':=fun{o} h=>by
    obtain⟨h1,h2⟩:=oJ h
    exact⟨h1,fun s'=>by rw[h2];rfl⟩
  cases i<;>(try (simp only[quiet]at hq;cases hq))<;>simp only[step]at h ⊢
  case mov x=>injection h with h1 h2;exact⟨h2.symm,fun s' he _=>by rw[ev s' he,h1]⟩
  case pick c a b=>
    cases hc:s.eval Γ c<;>simp only[hc]at h<;>try cases h
    exact⟨rfl,fun s' he _=>by rw[ev s' he];simp only[hc]⟩
  case build z ps=>exact⟨(fin h).1,fun s' he _=>by rw[ev s' he];exact(fin h).2 s'⟩
  case load n agg a=>
    obtain⟨h1,h2⟩:=oJ h
    refine⟨h1,fun s' he m=>?_⟩
    obtain⟨cs,h3,h4⟩:=gB h2
    rw[ev s' he,rG (m.resolve_left (by simp[mZ])) h3];simp[h4,AR.eI]
  case nilchk x=>
    cases hc:isNil (s.eval Γ x)with
    | none=>simp[hc]at h
    | some b=>
      cases b<;>simp[hc]at h
      exact⟨h.2.symm,fun s' he _=>by rw[ev s' he,hc];simp only;rw[h.1]⟩
  case bin op ek x y=>exact⟨(fin h).1,fun s' he _=>by rw[ev s' he];exact(fin h).2 s'⟩
  case un op x=>exact⟨(fin h).1,fun s' he _=>by rw[ev s' he];exact(fin h).2 s'⟩
  case cvi k x=>
    cases hc:s.eval Γ x<;>simp only[hc]at h<;>try cases h
    exact⟨rfl,fun s' he _=>by rw[ev s' he,hc]⟩
  case cvs x=>
    cases hc:s.eval Γ x<;>simp only[hc]at h<;>try cases h
    exact⟨rfl,fun s' he _=>by rw[ev s' he,hc]⟩
  case cvt x=>
    obtain⟨h1,h2⟩:=oJ h
    refine⟨h1,fun s' he m=>?_⟩
    cases hs:s.bl 1 (s.eval Γ x)with
    | none=>simp[hs]at h2
    | some cs=>rw[ev s' he,qi (m.resolve_left (by simp[mZ])) hs];simp only[hs]at h2;rw[h2];rfl
  case mkf f first caps=>injection h with h1 h2;exact⟨h2.symm,fun s' he _=>by rw[ev s' he,h1]⟩
  case slice k x lo hi mx=>
    split at h
    · rename_i l h' m' e1 e2 e3
      refine⟨(fin h).1,fun s' he _=>?_⟩
      simp only[bn s' he,e1,e2,e3,ev s' he]
      exact(fin h).2 s'
    · cases h
  case fld off x=>exact⟨(fin h).1,fun s' he _=>by rw[ev s' he];exact(fin h).2 s'⟩
  case idxs sz x i=>
    cases hc:s.eval Γ i<;>simp only[hc]at h<;>try cases h
    exact⟨(fin h).1,fun s' he _=>by rw[ev s' he,hc];exact(fin h).2 s'⟩
  case idxa n sz x i=>
    cases hc:s.eval Γ i<;>simp only[hc]at h<;>try cases h
    exact⟨(fin h).1,fun s' he _=>by rw[ev s' he,hc];exact(fin h).2 s'⟩
  case idxstr x i=>
    split at h
    · rename_i e1 e2
      exact⟨(fin h).1,fun s' he _=>by rw[ev s' he,e1,e2];exact(fin h).2 s'⟩
    · cases h
  case idxagg n sz agg x i=>
    split at h
    · rename_i e1 e2
      exact⟨(fin h).1,fun s' he _=>by rw[ev s' he,e1,e2];exact(fin h).2 s'⟩
    · cases h
  case extr x i=>
    cases hc:s.eval Γ x<;>simp only[hc]at h<;>try cases h
    exact⟨(fin h).1,fun s' he _=>by rw[ev s' he,hc];exact(fin h).2 s'⟩
  case len str x=>exact⟨(fin h).1,fun s' he _=>by rw[ev s' he];exact(fin h).2 s'⟩
  case lenc n=>injection h with h1 h2;exact⟨h2.symm,fun s' he _=>by rw[h1]⟩
  case cap x=>
    split at h
    · rename_i e1;injection h with h1 h2;exact⟨h2.symm,fun s' he _=>by rw[ev s' he,e1];simp only;rw[h1]⟩
    · rename_i e1;injection h with h1 h2;exact⟨h2.symm,fun s' he _=>by rw[ev s' he,e1];simp only;rw[h1]⟩
    · cases h
  case mm mx xs=>exact⟨(fin h).1,fun s' he _=>by rw[ev s' he];exact(fin h).2 s'⟩
def pb(P:Program)(Γ:bG)(gl:Gl)(os:List O)(i:Nat)(K:St→Prop)(s:St):Prop:=
  match os[i]? with
  | none=>K s
  | some o=>
    match guardOf os s o.gd with
    | none=>False
    | some t=>br t
        (match step Γ (iM gl o) s o.op with
          | .val v s'=>K (s'.put o.dst v)
          | .call f args=>aq P Γ f args s fun v s'=>K (s'.put o.dst v)
          | .stuck=>False)
        (K (s.put o.dst (.tup [])))
def df(os:List O)(af:List (List Nat))(done:List Bool):List Nat:=
  (List.range os.length).filter fun i=>!(done.getD i true) && (af.getD i []).all fun j=>done.getD j false
def jj(af:List (List Nat)):Nat→List Bool→List Bool
  | 0,S=>S
  | k+1,S=>jj af k (if S.getD k false=true then (af.getD k []).foldl (fun S e=>S.set e true) S else S)
def pt(os:List O)(i:Nat):Bool:=match os[i]? with|some o=>mZ o.op|none=>false
def kN(os:List O)(i:Nat):Bool:=match os[i]? with|some o=>mZ o.op || !quiet o.op|none=>false
def nq(os:List O)(af:List (List Nat))(done:List Bool)(i:Nat):Bool:=
  (List.range done.length).all fun q=>!(done.getD q false) || kN os q || (jj af i ((af.getD i []).foldl (fun S e=>S.set e true) (List.replicate done.length false))).getD q false
def rW(os:List O)(af:List (List Nat))(n i q:Nat):Bool:=
  kN os q || (jj af i ((af.getD i []).foldl (fun S e=>S.set e true) (List.replicate n false))).getD q false
def lH(os:List O)(q:Nat):Option Nat:=match os[q]? with|some ⟨_,_,.load _ _ (.t r)⟩=>some r|_=>none
def zC(os:List O)(af:List (List Nat))(q r:Nat):Bool:=(List.range os.length).all fun p=>(match os[p]? with|some o=>o.dst != some r|none=>true) || (af.getD q []).contains p
def Safe(s s':St)(p:AV):Prop:=∀n cs,s.cells p n=some cs→s'.cells p n=some cs
def ju(rs:List Nat)(s s':St):Prop:=∀r∈rs,Safe s s' (s.env.getD r .any)
def Ch(os:List O)(af:List (List Nat))(done:List Bool)(i:Nat)(s s':St):Prop:=
  ∀q,q<done.length→done.getD q false=true→rW os af done.length i q=false→∃r,lH os q=some r∧zC os af q r=true∧Safe s s' (s.env.getD r .any)
def mO(P:Program)(Γ:bG)(gl:Gl)(os:List O)(af:List (List Nat))(K:St→Prop):Nat→List Bool→St→Prop
  | 0,done,s=>df os af done=[]∧K s
  | fuel+1,done,s=>(df os af done=[]→K s)∧∀i∈df os af done,pb P Γ gl os i (fun s'=>(nq os af done i=true∨Mem s s'∨Ch os af done i s s')∧mO P Γ gl os af K fuel (done.set i true) s') s
theorem aq.env{f:FuncId}{args:List AV}{s:St}{K:AV→St→Prop}(e:List AV)(h:aq P Γ f args { s with env:=e } K):aq P Γ f args s fun v s'=>K v { s' with env:=e }:=by
  intro ρ ls w cargs m g ra
  obtain⟨h1,h2⟩:=h ρ ls w cargs m g ra
  refine⟨h1,h2.mono ?_⟩
  rintro x w' ⟨cv,v,s',ρ',ls',e1,e2,e3,e4,e5,e6⟩
  refine⟨cv,v,{ s' with env:=s.env },ρ',ls',e1,rfl,e3,e4,e5,?_⟩
  have:({ s' with env:=e }:St)=s':=by cases s';simp only at e2;subst e2;rfl
  simpa[this]using e6
def kW(e:List AV)(d:Option Nat)(v:AV):List AV:=match d with|some d=>e.set d v|none=>e
theorem put_eq(s:St)(d:Option Nat)(v:AV):s.put d v={ s with env:=kW s.env d v }:=by cases d<;>rfl
theorem Aj(e:List AV){d d':Option Nat}(v v':AV)(h:∀x,d=some x→d'≠some x):kW (kW e d v) d' v'=kW (kW e d' v') d v:=by
  cases d with
  | none=>rfl
  | some d=>
    cases d' with
    | none=>rfl
    | some d'=>
      have:d≠d':=fun hx=>h d rfl (by rw[hx])
      simp only[kW]
      exact(List.set_comm _ _ this)
theorem vC(e:List AV){d:Option Nat}(v:AV){t:Nat}(h:∀x,d=some x→x≠t):(kW e d v)[t]? = e[t]?:=by
  cases d with
  | none=>rfl
  | some d=>simp only[kW];exact List.getElem?_set_ne (h d rfl)
def qH(os:List O)(x y:O):Bool:=
  (match x.dst with|some d=>!(jm os y).contains d && y.dst != some d|none=>true) && (match y.dst with|some d=>!(jm os x).contains d|none=>true)
theorem wB{os:List O}{x y:O}(h:qH os x y=true):(∀d,x.dst=some d→d∉jm os y)∧(∀d,x.dst=some d→y.dst≠some d)∧(∀d,y.dst=some d→d∉jm os x):=by
  refine⟨fun d hd=>?_,fun d hd=>?_,fun d hd=>?_⟩<;>simp[qH,hd]at h
  · exact h.1.1
  · exact h.1.2
  · exact h.2
theorem jX{os:List O}{s:St}{e:List AV}{o:O}(h:∀t∈jm os o,e[t]? = s.env[t]?):guardOf os { s with env:=e } o.gd=guardOf os s o.gd:=by
  unfold guardOf
  cases hg:o.gd with
  | none=>rfl
  | some jw=>
    obtain⟨j,want⟩:=jw
    simp only
    cases hb:(os[j]?).bind (·.dst)with
    | none=>rfl
    | some d=>simp only[h d (by simp[jm,hg,hb])]
def QV(Γ:bG)(gl:Gl)(os:List O)(o:O)(v:AV)(s:St):Prop:=
  (guardOf os s o.gd=some true∧quiet o.op=true∧step Γ (iM gl o) s o.op=.val v s)∨(guardOf os s o.gd=some false∧v=.tup [])
theorem QV.env{gl:Gl}{os:List O}{o:O}{v:AV}{s:St}(h:QV Γ gl os o v s){e:List AV}(he:∀t∈jm os o,e[t]? = s.env[t]?):QV Γ gl os o v { s with env:=e }:=by
  rcases h with⟨h1,h2,h3⟩|⟨h1,h2⟩
  · refine .inl ⟨by rw[jX he];exact h1,h2,?_⟩
    rw[pA _ fun t ht=>he t (List.mem_append_left _ ht),h3];rfl
  · exact .inr ⟨by rw[jX he];exact h1,h2⟩
theorem gS{os:List O}{s s':St}(he:s'.env=s.env)(g:Option (Nat×Bool)):guardOf os s' g=guardOf os s g:=by
  unfold guardOf;rw[he]
theorem QV.mem{gl:Gl}{os:List O}{o:O}{v:AV}{s s':St}(h:QV Γ gl os o v s)(he:s'.env=s.env)(m:mZ o.op=true∨Mem s s'):QV Γ gl os o v s':=by
  rcases h with⟨h1,h2,h3⟩|⟨h1,h2⟩
  · exact .inl ⟨by rw[gS he];exact h1,h2,(pV h2 h3).2 s' he m⟩
  · exact .inr ⟨by rw[gS he];exact h1,h2⟩
theorem QV.mr{gl:Gl}{os:List O}{o:O}{v:AV}{s s':St}(h:QV Γ gl os o v s)(he:s'.env=s.env){n:Nat}{b:Bool}{r:Nat}(ho:o.op=.load n b (.t r))(hs:Safe s s' (s.env.getD r .any)):QV Γ gl os o v s':=by
  rcases h with⟨h1,h2,h3⟩|⟨h1,h2⟩
  · refine .inl ⟨by rw[gS he];exact h1,h2,?_⟩
    rw[ho]at h3 ⊢
    simp only[step,St.eval]at h3 ⊢
    obtain⟨_,h4⟩:=oJ h3
    obtain⟨cs,h5,h6⟩:=gB h4
    rw[he,hs n cs h5]
    simp[h6,AR.eI]
  · exact .inr ⟨by rw[gS he];exact h1,h2⟩
theorem QV.pb{gl:Gl}{os:List O}{i:Nat}{o:O}{v:AV}{s:St}(hi:os[i]? = some o)(h:QV Γ gl os o v s){K:St→Prop}(hk:K (s.put o.dst v)):Go.AM.pb P Γ gl os i K s:=by
  unfold Go.AM.pb
  simp only[hi]
  rcases h with⟨h1,h2,h3⟩|⟨h1,rfl⟩
  · simp only[h1,h3];exact⟨fun _=>hk,fun h=>by cases h⟩
  · simp only[h1];exact⟨fun h=>(by cases h),fun _=>hk⟩
theorem fW{gl:Gl}{os:List O}{i:Nat}{K K':St→Prop}{s:St}(hk:∀s,K s→K' s)(h:pb P Γ gl os i K s):pb P Γ gl os i K' s:=by
  unfold pb at *
  split
  · simp_all
  · rename_i o ho
    simp only[ho]at h
    split
    · rename_i hg;simp[hg]at h
    · rename_i t hg
      simp only[hg]at h
      refine⟨fun ht=>?_,fun ht=>hk _ (h.2 ht)⟩
      have h:=h.1 ht
      split
      · rename_i v s' hs;rw[hs]at h;exact hk _ h
      · rename_i f args hs;rw[hs]at h;exact h.mono fun _ _=>hk _
      · rename_i hs;rw[hs]at h;exact h
theorem DB{gl:Gl}{os:List O}{j:Nat}{oi oj:O}{v:AV}{s:St}{K:St→Prop}(hj:os[j]? = some oj)(hap:qH os oi oj=true)(hv:QV Γ gl os oi v s)
    (hK:∀s',K s'→(mZ oi.op=true∨Mem (s.put oi.dst v) s')∨∃(n:Nat) (b:Bool) (r:Nat),oi.op=.load n b (.t r)∧Safe s s' (s.env.getD r .any)) (h:pb P Γ gl os j K (s.put oi.dst v)):pb P Γ gl os j (fun s'=>QV Γ gl os oi v s'∧K (s'.put oi.dst v)) s:=by
  obtain⟨a1,a2,a3⟩:=wB hap
  have e1:∀t∈jm os oj,(kW s.env oi.dst v)[t]? = s.env[t]?:=fun t ht=>vC _ _ fun x hx hxt=>a1 x hx (hxt▸ht)
  have e2:∀(e:List AV) (u:AV),∀t∈jm os oi,(kW e oj.dst u)[t]? = e[t]?:=fun e u t ht=>vC _ _ fun x hx hxt=>a3 x hx (hxt▸ht)
  have mem:∀{s':St} {u:AV},K ({ s' with env:=kW (kW s.env oj.dst u) oi.dst v }:St)→(mZ oi.op=true∨Mem s ({ s' with env:=kW s.env oj.dst u }:St))∨∃(n:Nat) (b:Bool) (r:Nat),oi.op=.load n b (.t r)∧Safe s s' (s.env.getD r .any):=fun{s' u} hk=>(hK _ hk).imp (fun h=>h.imp id fun this=>by rw[put_eq]at this;exact⟨this.1,this.2⟩) id
  have fin:∀(s':St) (u:AV),s'.env=s.env→K (({ s' with env:=kW s.env oi.dst v }:St).put oj.dst u)→QV Γ gl os oi v (s'.put oj.dst u)∧K ((s'.put oj.dst u).put oi.dst v):=by
    intro s' u he hk
    rw[put_eq]at hk
    simp only at hk
    rw[Aj _ _ _ (fun x hx=>a2 x hx)]at hk
    have hm:=mem (s':=s') hk
    rw[put_eq,put_eq]
    simp only[he]
    refine⟨?_,hk⟩
    have:QV Γ gl os oi v ({ s' with env:=s.env }:St):=by
      rcases hm with hm|⟨n,b,r,q1,q2⟩
      · exact QV.mem (s':={ s' with env:=s.env }) hv rfl (hm.imp id fun m=>⟨m.1,m.2⟩)
      · exact QV.mr (s':={ s' with env:=s.env }) hv rfl q1 q2
    exact this.env (e2 _ _)
  unfold pb at h ⊢
  simp only[hj]at h ⊢
  rw[put_eq]at h
  rw[jX e1]at h
  rw[pA _ fun t ht=>e1 t (List.mem_append_left _ ht)]at h
  split at h
  · exact h.elim
  · rename_i t hg
    refine⟨fun ht=>?_,fun ht=>?_⟩
    · have h:=h.1 ht
      cases hs:step Γ (iM gl oj) s oj.op with
      | val u s1=>
        rw[hs]at h
        simp only[AR.xU]at h ⊢
        have he:s1.env=s.env:=by
          have:=pA (Γ:=Γ) (gl:=iM gl oj) (s:=s) (e:=s.env) oj.op (fun _ _=>rfl)
          rw[show({ s with env:=s.env }:St)=s from rfl,hs]at this
          simp only[AR.xU,AR.val.injEq,true_and]at this
          rw[this]
        exact fin s1 u he h
      | call f args=>
        rw[hs]at h
        simp only[AR.xU]at h ⊢
        intro ρ ls w cargs m g ra
        obtain⟨h1,h2⟩:=h ρ ls w cargs m g ra
        refine⟨h1,h2.mono ?_⟩
        rintro x w' ⟨cv,u,s',ρ',ls',q1,q2,q3,q4,q5,q6⟩
        refine⟨cv,u,{ s' with env:=s.env },ρ',ls',q1,rfl,q3,q4,q5,?_⟩
        refine fin _ u rfl ?_
        have:({ s' with env:=kW s.env oi.dst v }:St)=s':=by cases s';simp only at q2;subst q2;rfl
        simpa[this]using q6
      | stuck=>rw[hs]at h;exact h.elim
    · have h:=h.2 ht
      exact fin s _ rfl h
theorem dh{os:List O}{af:List (List Nat)}{done:List Bool}{j:Nat}:j∈df os af done↔j<os.length∧done.getD j true=false∧∀e∈af.getD j [],done.getD e false=true:=by
  unfold df
  simp[List.mem_filter,List.all_eq_true]
theorem dW{l:List Bool}{i j:Nat}(d:Bool)(h:i≠j):(l.set i true).getD j d=l.getD j d:=by
  simp[List.getD_eq_getElem?_getD,List.getElem?_set_ne h]
theorem gY{l:List Bool}{i j:Nat}(h:l.getD j false=true):(l.set i true).getD j false=true:=by
  by_cases hij:i=j
  · subst hij
    have hlt:i<l.length:=by
      rcases Nat.lt_or_ge i l.length with h'|h'
      · exact h'
      · simp[List.getD_eq_getElem?_getD,List.getElem?_eq_none h']at h
    simp[List.getD_eq_getElem?_getD,List.getElem?_set_self hlt]
  · rw[dW false hij];exact h
theorem jV{os:List O}{af:List (List Nat)}{done:List Bool}{i j:Nat}(hj:j∈df os af done)(hne:j≠i):j∈df os af (done.set i true):=by
  rw[dh]at *
  exact⟨hj.1,by rw[dW true (Ne.symm hne)];exact hj.2.1,fun e he=>gY (hj.2.2 e he)⟩
def qY(os:List O)(af:List (List Nat))(done:List Bool)(i:Nat):Bool:=
  match os[i]? with
  | none=>false
  | some oi=>(List.range os.length).all fun j=>j == i || done.getD j true || (af.getD j []).contains i || (match os[j]? with|some oj=>qH os oi oj|none=>true)
theorem z7{os:List O}{af:List (List Nat)}{done:List Bool}{i j:Nat}(h:qY os af done i=true):qY os af (done.set j true) i=true:=by
  unfold qY at *
  split at h
  · cases h
  · rename_i oi hoi
    try simp only[hoi]
    rw[List.all_eq_true]at *
    intro k hk
    have:=h k hk
    simp only[Bool.or_eq_true]at this ⊢
    rcases this with((h1|h1)|h1)|h1
    · exact .inl (.inl (.inl h1))
    · by_cases hkj:j=k
      · subst hkj
        refine .inl (.inl (.inr ?_))
        by_cases hl:j<done.length
        · simp[List.getD_eq_getElem?_getD,List.getElem?_set_self hl]
        · simp[List.getD_eq_getElem?_getD,List.getElem?_eq_none (show(done.set j true).length≤j by simpa using Nat.not_lt.1 hl)]
      · exact .inl (.inl (.inr (by rw[dW true hkj];exact h1)))
    · exact .inl (.inr h1)
    · exact .inr h1
def jl(af:List (List Nat))(done:List Bool):Prop:=∀k,done.getD k false=true→∀e∈af.getD k [],done.getD e false=true
theorem qt(af:List (List Nat))(n:Nat):jl af (List.replicate n false):=by
  intro k hk
  simp only[List.getD_eq_getElem?_getD,List.getElem?_replicate]at hk
  split at hk<;>simp at hk
theorem kc{D:List Bool}:∀{l:List Nat} {S:List Bool},(∀e,S.getD e false=true→D.getD e false=true)→(∀e∈l,D.getD e false=true)→∀e,(l.foldl (fun S e=>S.set e true) S).getD e false=true→D.getD e false=true
  | [],S,h1,_,e,h=>h1 e h
  | a::l,S,h1,h2,e,h=>by
    refine kc (l:=l) (S:=S.set a true) (fun x hx=>?_) (fun x hx=>h2 x (List.mem_cons_of_mem _ hx)) e h
    by_cases hax:a=x
    · subst hax;exact h2 a (by simp)
    · rw[dW false hax]at hx;exact h1 x hx
theorem kS{af:List (List Nat)}{D:List Bool}(hc:jl af D):∀{n:Nat} {S:List Bool},(∀e,S.getD e false=true→D.getD e false=true)→∀e,(jj af n S).getD e false=true→D.getD e false=true
  | 0,S,h1,e,h=>h1 e h
  | n+1,S,h1,e,h=>by
    simp only[jj]at h
    refine kS hc (n:=n) (fun x hx=>?_) e h
    split at hx
    · rename_i hn;exact kc h1 (hc n (h1 n hn)) x hx
    · exact h1 x hx
theorem gh{af:List (List Nat)}{done:List Bool}{j:Nat}(hc:jl af done)(hj:∀e∈af.getD j [],done.getD e false=true):jl af (done.set j true):=by
  intro k hk e he
  by_cases h:j=k
  · subst h;exact gY (hj e he)
  · rw[dW false h]at hk;exact gY (hc k hk e he)
theorem BA{os:List O}{af:List (List Nat)}{done:List Bool}{i j:Nat}(hp:kN os i=false)(hc:jl af done)(hj:∀e∈af.getD j [],done.getD e false=true)(hi:done.getD i true=false):¬nq os af (done.set i true) j=true:=by
  intro h
  have hil:i<done.length:=by
    rcases Nat.lt_or_ge i done.length with h'|h'
    · exact h'
    · simp[List.getD_eq_getElem?_getD,List.getElem?_eq_none h']at hi
  unfold nq at h
  have h:=List.all_eq_true.1 h i (by simpa using hil)
  have e1:(done.set i true).getD i false=true:=by simp[List.getD_eq_getElem?_getD,List.getElem?_set_self hil]
  simp only[e1,hp,Bool.not_true,Bool.false_or]at h
  have h2:=kS hc (kc (fun e he=>by
    simp only[List.getD_eq_getElem?_getD,List.getElem?_replicate]at he
    split at he<;>simp at he) hj) i h
  simp[List.getD_eq_getElem?_getD,List.getElem?_eq_getElem hil]at h2 hi
  rw[h2]at hi;cases hi
theorem Ac{os:List O}{af:List (List Nat)}{done:List Bool}{i j:Nat}(h:nq os af (done.set i true) j=true):nq os af done j=true:=by
  unfold nq at *
  rw[List.all_eq_true]at *
  intro q hq
  have:=h q (by simpa using hq)
  by_cases hiq:i=q
  · subst hiq
    have hil:i<done.length:=by simpa using hq
    have e1:(done.set i true).getD i false=true:=by simp[List.getD_eq_getElem?_getD,List.getElem?_set_self hil]
    simp only[e1,Bool.not_true,Bool.false_or,List.length_set]at this
    cases hd:done.getD i false
    · simp
    · simpa using this
  · rw[dW false hiq,List.length_set]at this
    exact this
theorem ur{gl:Gl}{os:List O}{af:List (List Nat)}{K:St→Prop}{i:Nat}{oi:O}{v:AV}(hi:os[i]? = some oi)(hqi:quiet oi.op=true):
    ∀(fuel:Nat) (done:List Bool) (s:St),jl af done→qY os af done i=true→i∈df os af done→QV Γ gl os oi v s→mO P Γ gl os af K fuel (done.set i true) (s.put oi.dst v)→
      mO P Γ gl os af K (fuel+1) done s:=by
  intro fuel
  induction fuel with
  | zero=>
    intro done s hc hf hr hv H
    refine⟨fun h=>(by rw[h]at hr;cases hr),fun j hj=>?_⟩
    by_cases hji:j=i
    · subst hji;exact hv.pb hi ⟨.inr (.inl (by rw[put_eq];exact Mem.env _ _)),H⟩
    · have:=jV hj hji
      rw[H.1]at this
      cases this
  | succ fuel ih=>
    intro done s hc hf hr hv H
    refine⟨fun h=>(by rw[h]at hr;cases hr),fun j hj=>?_⟩
    by_cases hji:j=i
    · subst hji;exact hv.pb hi ⟨.inr (.inl (by rw[put_eq];exact Mem.env _ _)),H⟩
    · have h1:=H.2 j (jV hj hji)
      obtain⟨hjl,hjun,hall⟩:=dh.1 hj
      have hoj:os[j]? = some os[j]:=List.getElem?_eq_getElem hjl
      have hap:qH os oi os[j]=true:=by
        unfold qY at hf
        simp only[hi]at hf
        have:=List.all_eq_true.1 hf j (List.mem_range.2 hjl)
        simp only[hoj,Bool.or_eq_true,beq_iff_eq,hji,hjun,Bool.false_eq_true,false_or,or_false]at this
        rcases this with h|h
        · have h0:=hall i (by simpa using h)
          have h2:=(dh.1 hr).2.1
          rcases Nat.lt_or_ge i done.length with h'|h'
          · simp[List.getD_eq_getElem?_getD,List.getElem?_eq_getElem h']at h0 h2;rw[h0]at h2;cases h2
          · simp[List.getD_eq_getElem?_getD,List.getElem?_eq_none h']at h0
        · exact h
      have hiu:=(dh.1 hr).2.1
      have hia:=(dh.1 hr).2.2
      have hil:i<done.length:=by
        rcases Nat.lt_or_ge i done.length with h'|h'
        · exact h'
        · simp[List.getD_eq_getElem?_getD,List.getElem?_eq_none h']at hiu
      have hif:done.getD i false=false:=by simpa[List.getD_eq_getElem?_getD,List.getElem?_eq_getElem hil]using hiu
      have areg:∀q r,lH os q=some r→zC os af q r=true→(∀e∈af.getD q [],done.getD e false=true)→(s.put oi.dst v).env.getD r .any=s.env.getD r .any:=by
        intro q r h1 h2 h3
        rw[put_eq]
        simp only[List.getD_eq_getElem?_getD]
        rw[vC]
        rintro x hx rfl
        have hilo:i<os.length:=aK hi
        have:=List.all_eq_true.1 h2 i (List.mem_range.2 hilo)
        simp only[hi,hx,bne_self_eq_false,Bool.false_or]at this
        have:=h3 i (by simpa using this)
        rw[hif]at this;cases this
      have h2:=DB hoj hap hv (fun s' h=>by
        cases hp:kN os i with
        | true=>exact .inl (.inl (by simpa[kN,hi,hqi]using hp))
        | false=>
          rcases h.1.resolve_left (BA (i:=i) (j:=j) hp hc hall hiu)with h|k3
          · exact .inl (.inr h)
          · have e1:(done.set i true).getD i false=true:=by simp[List.getD_eq_getElem?_getD,List.getElem?_set_self hil]
            obtain⟨r,r1,r2,r3⟩:=k3 i (by simpa using hil) e1 (by
              cases hl:rW os af (done.set i true).length j i
              · rfl
              · exfalso
                simp only[rW,hp,Bool.false_or]at hl
                have h2:=kS hc (kc (fun e he=>by
                  simp only[List.getD_eq_getElem?_getD,List.getElem?_replicate]at he
                  split at he<;>simp at he) hall) i hl
                rw[hif]at h2;cases h2)
            rw[areg i r r1 r2 hia]at r3
            have hop:∃n b,oi.op=.load n b (.t r):=by
              unfold lH at r1
              rw[hi]at r1
              split at r1
              · rename_i x1 x2 n b r' hx
                injection hx with hx;subst hx
                injection r1 with r1;subst r1
                exact⟨n,b,rfl⟩
              · cases r1
            obtain⟨n,b,hop⟩:=hop
            rw[put_eq]at r3
            exact .inr ⟨n,b,r,hop,r3⟩) h1
      refine fW (fun s' h3=>⟨h3.2.1.imp Ac (fun m=>m.imp (fun m=>by rw[put_eq,put_eq]at m;exact⟨m.1,m.2⟩) (fun k3 q hq hdq hlq=>by
        have hqi:i≠q:=fun e=>by subst e;rw[hif]at hdq;cases hdq
        obtain⟨r,r1,r2,r3⟩:=k3 q (by simpa using hq) (by rw[dW false hqi];exact hdq) (by rw[List.length_set];exact hlq)
        exact⟨r,r1,r2,by rw[areg q r r1 r2 (hc q hdq)]at r3;rw[put_eq,put_eq]at r3;exact r3⟩)),ih _ s' (gh hc hall) (z7 hf) (jV hr (Ne.symm hji)) h3.1 ?_⟩) h2
      rw[List.set_comm _ _ hji]
      exact h3.2.2
theorem pB{ops:Array Oper}{os:List O}(hlen:os.length=ops.size){done:List Bool}(listed:Array Bool)(hd:listed.toList=done):
    Region.ready .any ops listed=df os (ops.toList.map fun o=>o.after.toList.filterMap fun e=>if Region.binds .any e then some e.on else none) done:=by
  unfold Region.ready df
  rw[hlen]
  refine List.filter_congr fun i hi=>?_
  subst hd
  have hl:i<ops.size:=List.mem_range.1 hi
  have:∀(j:Nat) (d:Bool),listed.getD j d=listed.toList.getD j d:=fun j d=>by simp[Array.getD_eq_getD_getElem?,List.getD_eq_getElem?_getD]
  simp only[this]
  congr 1
  simp only[List.getD_eq_getElem?_getD,List.getElem?_map,Array.getElem?_toList,Array.getElem?_eq_getElem hl,Option.map_some,Option.getD_some]
  rw[←Array.all_toList,Bool.eq_iff_iff,List.all_eq_true,List.all_eq_true]
  constructor
  · intro h x hx
    obtain⟨e,he,hx⟩:=List.mem_filterMap.1 hx
    split at hx
    · rename_i hb
      injection hx with hx
      subst hx
      have:=h e he
      simpa[hb]using this
    · cases hx
  · intro h e he
    by_cases hb:Region.binds .any e=true
    · have:=h e.on (List.mem_filterMap.2 ⟨e,he,by rw[if_pos hb]⟩)
      simpa[hb]using this
    · simp[hb]
theorem Ab(da:cX P Θ){ops:Array Oper}{os:List O}(hos:ops.toList.mapM (AX Θ)=some os)(gl:Gl){Q:Exit→Act→World→Prop}{K:St→Prop}{K':Act→World→Prop}
    {i:Nat} (hil:i<os.length) {s:St} {ρ₀ ls₀ h₀ w₀} (hK:∀s' ρ ls a w,gW ρ₀ ls₀ h₀ w₀ ρ ls s'.heap w→Rel Γ ρ ls s' a w→K s'→K' a w)
    {ρ ls a w} (ev:gW ρ₀ ls₀ h₀ w₀ ρ ls s.heap w) (rel:Rel Γ ρ ls s a w) (h:pb P Γ gl os i K s):wpOp P ops Q i K' a w:=by
  obtain⟨hlen,bA⟩:=gb hos
  have hop:i<ops.toList.length:=by omega
  obtain⟨o',ho1,ho2⟩:=bA i _ (List.getElem?_eq_getElem hop)
  have hoe:o'=os[i]:=by rw[List.getElem?_eq_getElem hil]at ho1;exact(Option.some.inj ho1).symm
  subst hoe
  have hopi:ops[i]? = some ops.toList[i]:=by rw[←Array.getElem?_toList,List.getElem?_eq_getElem hop]
  generalize hoo:ops.toList[i]=o at ho2 hopi
  have htr:Ki Θ o.op=some os[i].op∧os[i].dst=o.dst∧os[i].gd=o.guard:=by
    unfold AX at ho2
    cases hI:Ki Θ o.op with
    | none=>simp[hI]at ho2
    | some x=>simp[hI]at ho2;rw[←ho2];simp
  obtain⟨ht,hd,hg⟩:=htr
  unfold pb at h
  simp only[List.getElem?_eq_getElem hil]at h
  unfold wpOp
  simp only[hopi]
  have hguard:∀t,guardOf os s os[i].gd=some t→Region.wanted o (yielded ops a.tmps)=t:=by
    intro t hgd
    rw[hg]at hgd
    unfold guardOf at hgd
    unfold Region.wanted
    cases hog:o.guard with
    | none=>simp[hog]at hgd ⊢;exact hgd
    | some jw=>
      obtain⟨j,want⟩:=jw
      simp only[hog]at hgd ⊢
      have hdst:(os[j]?).bind (·.dst)=(ops[j]?).bind (·.dst):=by
        cases hoj:os[j]? with
        | none=>
          have:ops.toList.length≤j:=by
            rcases Nat.lt_or_ge j ops.toList.length with h|h
            · rw[List.getElem?_eq_getElem (by omega)]at hoj;cases hoj
            · exact h
          rw[Array.getElem?_eq_none (by simpa using this)];rfl
        | some oj=>
          have hj:=aK hoj
          obtain⟨o2,q1,q2⟩:=bA j _ (List.getElem?_eq_getElem (show j<ops.toList.length by omega))
          rw[hoj]at q1
          injection q1 with q1
          subst q1
          have:ops[j]? = some ops.toList[j]:=by rw[←Array.getElem?_toList,List.getElem?_eq_getElem]
          rw[this]
          unfold AX at q2
          rw[Option.map_eq_some_iff]at q2
          obtain⟨x,_,q3⟩:=q2
          rw[←q3];rfl
      rw[hdst]at hgd
      unfold yielded
      cases hb:(ops[j]?).bind (·.dst)with
      | none=>rw[hb]at hgd;simp at hgd;simp[hgd]
      | some d=>
        simp only[hb,Option.bind_some]at hgd ⊢
        cases hv:s.env[d]? with
        | none=>
          have:a.tmps[d]? = none:=by
            rcases Nat.lt_or_ge d s.env.length with h|h
            · rw[List.getElem?_eq_getElem h]at hv;cases hv
            · exact Array.getElem?_eq_none (by rw[←rel.size];exact h)
          simp[hv]at hgd
          simp[this,hgd]
        | some x=>
          have hr:=rel.env d x hv
          have hlt:d<a.tmps.size:=by rw[←rel.size];exact aK hv
          have hta:a.tmps[d]? = some (a.tmps.getD d undef):=by simp[hlt]
          rw[hta]
          generalize a.tmps.getD d undef=u at hr
          cases hr<;>simp[hv]at hgd<;>(try subst hgd)<;>simp
  cases hgd:guardOf os s os[i].gd with
  | none=>simp[hgd]at h
  | some t=>
    rw[hguard t hgd]
    simp only[hgd]at h
    obtain⟨hT,hF⟩:=h
    cases t with
    | false=>
      simp only[Bool.false_eq_true,if_false]
      have hrel:=km rel rfl rel.mem (.refl _ _ _ _) (eT (ρ:=ρ) (ls:=ls)) os[i].dst
      rw[←hd]
      exact hK _ ρ ls _ w (by
        have:(s.put os[i].dst (.tup [])).heap=s.heap:=by cases os[i].dst<;>rfl
        rw[this];exact ev) hrel (hF rfl)
    | true=>
      simp only[if_true]
      refine .inl ?_
      have hs:=qy da ht rel (iM gl os[i])
      have hT:=hT rfl
      unfold Oper.wp
      cases hst:step Γ (iM gl os[i]) s os[i].op with
      | stuck=>simp[hst]at hT
      | val v s'=>
        rw[hst]at hs
        simp only[hst]at hT
        obtain⟨he,nx,cv,w',ρ',ls',hrun,hnx,hrv,hmem,hev⟩:=hs
        rw[hrun]
        have hrel:=km rel he hmem hev hrv os[i].dst
        have hnext:=hK _ ρ' ls' (a.put o.dst cv) w' (by
          have:(s'.put os[i].dst v).heap=s'.heap:=by cases os[i].dst<;>rfl
          rw[this];exact ev.trans hev) (by rw[←hd];exact hrel) hT
        rcases hnx with rfl|⟨rfl,rfl⟩
        · exact hnext
        · exact hnext
      | call f args=>
        rw[hst]at hs
        simp only[hst]at hT
        obtain⟨cargs,hrun,hra⟩:=hs
        obtain⟨hcal,hcalls⟩:=hT ρ ls w cargs rel.mem rel.glob hra
        rw[hrun,lL hcal]
        simp only[Oper.upon]
        refine hcalls.mono ?_
        rintro e w' ⟨cv,v,s',ρ',ls',rfl,he,hrv,hmem,hev,hk⟩
        have hrel:=km rel he hmem hev hrv os[i].dst
        exact hK _ ρ' ls' (a.put o.dst cv) w' (by
          have:(s'.put os[i].dst v).heap=s'.heap:=by cases os[i].dst<;>rfl
          rw[this];exact ev.trans hev) (by rw[←hd];exact hrel) hk
def O6(ops:Array Oper):List (List Nat):=ops.toList.map fun o=>o.after.toList.filterMap fun e=>if Region.binds .any e then some e.on else none
theorem uL(da:cX P Θ){ops:Array Oper}{os:List O}(hos:ops.toList.mapM (AX Θ)=some os)(gl:Gl){Q:AE→St→Prop}{ρ₀ ls₀ h₀ w₀}:
    ∀(fuel:Nat) (listed:Array Bool) (done:List Bool) (s:St),listed.toList=done→mO P Γ gl os (O6 ops) (Q .normal) fuel done s→∀ρ ls a w,gW ρ₀ ls₀ h₀ w₀ ρ ls s.heap w→Rel Γ ρ ls s a w→
      wpAny P .any ops (Sat Γ Q ρ₀ ls₀ h₀ w₀) fuel listed a w:=by
  have hlen:os.length=ops.size:=by have:=(gb hos).1;simpa using this
  intro fuel
  induction fuel with
  | zero=>
    intro listed done s hd h ρ ls a w ev rel
    exact⟨by rw[pB hlen listed hd];exact h.1,s,ρ,ls,rel,ev,h.2⟩
  | succ fuel ih=>
    intro listed done s hd h ρ ls a w ev rel
    refine⟨fun hr=>⟨s,ρ,ls,rel,ev,h.1 (by rw[pB hlen listed hd]at hr;exact hr)⟩,fun i hi=>?_⟩
    rw[pB hlen listed hd]at hi
    refine Ab da hos gl (dh.1 hi).1 ?_ ev rel (h.2 i hi)
    intro s' ρ' ls' a' w' ev' rel' hk
    exact ih _ _ s' (by rw[←hd];simp) hk.2 ρ' ls' a' w' ev' rel'
theorem zn(da:cX P Θ)(hm:P.follows .mixedOrders=true)(gl:Gl){os:List O}{af:List (List Nat)}{Q:AE→St→Prop}{s:St}
    (h:mO P Γ gl os af (Q .normal) os.length (List.replicate os.length false) s):TC P Θ Γ (.regD os af) Q s:=by
  intro code hc
  cases code with
  | region id ops draw=>
    cases draw with
    | false=>
      simp only[iN,Option.map_eq_some_iff]at hc
      obtain⟨_,_,h⟩:=hc
      cases h
    | true=>
      simp only[iN,Option.map_eq_some_iff]at hc
      obtain⟨os',hos,hc⟩:=hc
      injection hc with h1 h2
      subst h1
      have h2:O6 ops=af:=h2
      subst h2
      have hlen:os'.length=ops.size:=by have:=(gb hos).1;simpa using this
      intro ρ₀ ls₀ h₀ w₀ ρ ls a w ev rel
      refine wp_region_any hm (uL da hos gl ops.size _ (List.replicate os'.length false) s (by simp[hlen]) (by rw[←hlen];exact h) ρ ls a _ ?_ ?_)
      · exact ev.trans (.uc rfl rfl rfl)
      · exact⟨rel.defers,rel.size,rel.env,rel.mem.uc rfl,rel.glob⟩
  | seq x y=>
    simp only[iN]at hc
    obtain⟨_,_,hc⟩:=gB hc
    rw[Option.map_eq_some_iff]at hc
    obtain⟨_,_,h⟩:=hc
    cases h
  | cond x y z=>
    simp only[iN]at hc
    obtain⟨_,_,hc⟩:=gB hc
    rw[Option.map_eq_some_iff]at hc
    obtain⟨_,_,h⟩:=hc
    cases h
  | block id x=>
    simp only[iN,Option.map_eq_some_iff]at hc
    obtain⟨_,_,h⟩:=hc
    cases h
  | loop x=>
    simp only[iN,Option.map_eq_some_iff]at hc
    obtain⟨_,_,h⟩:=hc
    cases h
  | _=>simp[iN]at hc
end
end Go.AM
namespace Go.AM
inductive D where
  | done
  | q (i:Nat) (d:D)
  | all (ds:List (Nat×D))
  | st (i:Nat) (rs:List Nat) (d:D)
  | mix (ds:List (Nat×Option (List Nat)×D))
  deriving Inhabited
def quietAt(os:List O)(i:Nat):Bool:=match os[i]? with|some o=>quiet o.op|none=>false
def xy(os:List O)(af:List (List Nat))(done:List Bool)(i:Nat):Bool:=
  (List.range done.length).all fun q=>!(done.getD q false) || pt os q || (jj af i ((af.getD i []).foldl (fun S e=>S.set e true) (List.replicate done.length false))).getD q false
def xD(os:List O)(af:List (List Nat))(n i q:Nat):Bool:=
  pt os q || (jj af i ((af.getD i []).foldl (fun S e=>S.set e true) (List.replicate n false))).getD q false
theorem sD{os:List O}{q:Nat}(h:pt os q=true):kN os q=true:=by
  unfold pt at h;unfold kN
  split at h
  · rename_i o ho;simp[h]
  · cases h
theorem RC{os:List O}{af:List (List Nat)}{done:List Bool}{i:Nat}(h:xy os af done i=true):nq os af done i=true:=by
  unfold xy at h;unfold nq
  rw[List.all_eq_true]at *
  intro q hq
  have:=h q hq
  simp only[Bool.or_eq_true]at this ⊢
  exact this.imp (fun h=>h.imp id sD) id
theorem Dr{os:List O}{af:List (List Nat)}{n i q:Nat}(h:rW os af n i q=false):xD os af n i q=false:=by
  unfold rW at h;unfold xD
  rw[Bool.or_eq_false_iff]at *
  refine⟨?_,h.2⟩
  cases hp:pt os q
  · rfl
  · rw[sD hp]at h;cases h.1
def isApp(os:List O)(i:Nat):Bool:=match os[i]? with|some ⟨_,_,.app _ _ _ _ _ _⟩=>true|some ⟨_,_,.store _ _ _⟩=>true|some ⟨_,_,.appz _ _ _ _ _⟩=>true|some ⟨_,_,.clr _ _ _⟩=>true|_=>false
def yc(os:List O)(af:List (List Nat))(done:List Bool)(i:Nat):Option (List Nat):=
  (((List.range done.length).filter fun q=>done.getD q false && !(xD os af done.length i q)).mapM fun q=>match lH os q with|some r=>if zC os af q r=true then some r else none|none=>none)
def oV(os:List O)(af:List (List Nat))(done:List Bool)(i:Nat):Option (List Nat):=
  if isApp os i=true then (((List.range done.length).filter fun q=>done.getD q false && !(rW os af done.length i q)).mapM fun q=>match lH os q with|some r=>if zC os af q r=true then some r else none|none=>none)else none
def Em(os:List O)(i:Nat):Bool:=match os[i]? with|some ⟨_,_,.store _ (.t _) _⟩=>true|some ⟨_,_,.app _ _ _ _ _ _⟩=>true|some ⟨_,_,.call _ _⟩=>true|_=>false
def sched(os:List O)(af:List (List Nat)):Nat→List Bool→Option D
  | 0,done=>if (df os af done).isEmpty=true then some .done else none
  | fuel+1,done=>
    match (df os af done).find? (fun i=>quietAt os i && qY os af done i)with
    | some i=>(sched os af fuel (done.set i true)).map (.q i)
    | none=>if (df os af done).isEmpty=true then some .done else match (df os af done).find? (fun i=>df os af done == [i] && xy os af done i)with
      | some i=>(sched os af fuel (done.set i true)).map (.q i)
      | none=>match (df os af done).find? (fun i=>df os af done == [i] && Em os i && (yc os af done i).isSome)with
      | some i=>(sched os af fuel (done.set i true)).map (.st i ((yc os af done i).getD []))
      | none=>if ((df os af done).any fun i=>(oV os af done i).isSome)=true then
          ((df os af done).mapM fun i=>(sched os af fuel (done.set i true)).map fun d=>(i,oV os af done i,d)).map .mix
        else ((df os af done).mapM fun i=>(sched os af fuel (done.set i true)).map fun d=>(i,d)).map .all
section
variable (P:Program) (Θ:jL) (Γ:bG)
def qj(f:Nat→D→Prop):List (Nat×D)→Prop
  | []=>True
  | (i,d)::r=>f i d∧qj f r
def lI(f:Nat→Option (List Nat)→D→Prop):List (Nat×Option (List Nat)×D)→Prop
  | []=>True
  | (i,b,d)::r=>f i b d∧lI f r
def bV(gl:Gl)(os:List O)(K:St→Prop):Nat→D→St→Prop
  | 0,.done,s=>K s
  | _+1,.done,s=>K s
  | n+1,.q i d,s=>pb P Γ gl os i (bV gl os K n d) s
  | n+1,.st i rs d,s=>pb P Γ gl os i (fun s'=>ju rs s s'∧bV gl os K n d s') s
  | n+1,.all ds,s=>qj (fun i d=>pb P Γ gl os i (fun s'=>Mem s s'∧bV gl os K n d s') s) ds
  | n+1,.mix ds,s=>lI (fun i b d=>pb P Γ gl os i (fun s'=>(match b with|some rs=>ju rs s s'|none=>Mem s s')∧bV gl os K n d s') s) ds
  | 0,_,_=>False
def aw(gl:Gl):C→(AE→St→Prop)→St→Prop
  | .skip,Q,s=>Q .normal s
  | .reg os,Q,s=>dI P Γ gl os os (Q .normal) s
  | .regD os af,Q,s=>match sched os af os.length (List.replicate os.length false)with
    | some d=>bV P Γ gl os (Q .normal) os.length d s
    | none=>False
  | .seq a b,Q,s=>aw gl a (hJ (aw gl b Q) Q) s
  | .cond c a b,Q,s=>match s.eval Γ c with|.bool t=>br t (aw gl a Q s) (aw gl b Q s)|_=>False
  | .block id c,Q,s=>aw gl c (gH id Q) s
  | .loop c,Q,s=>TC P Θ Γ (.loop c) Q s
  | .exit id,Q,s=>Q (.exit id) s
  | .ret,Q,s=>Q .ret s
end
section
variable {P:Program} {Θ:jL} {Γ:bG}
theorem fV{os:List O}{af:List (List Nat)}{done:List Bool}{p:Nat→Bool}{i:Nat}(h:(df os af done).find? p=some i):i∈df os af done∧p i=true:=
  ⟨List.mem_of_find?_eq_some h,List.find?_some h⟩
theorem Dk{gl:Gl}{os:List O}{i:Nat}{K:St→Prop}{s:St}(hq:quietAt os i=true)(h:pb P Γ gl os i K s):∃o v,os[i]? = some o∧QV Γ gl os o v s∧K (s.put o.dst v):=by
  unfold pb at h
  unfold quietAt at hq
  cases ho:os[i]? with
  | none=>simp[ho]at hq
  | some o=>
    simp only[ho]at h hq
    refine⟨o,?_⟩
    cases hg:guardOf os s o.gd with
    | none=>simp[hg]at h
    | some t=>
      simp only[hg]at h
      cases t with
      | true=>
        have h:=h.1 rfl
        cases hs:step Γ (iM gl o) s o.op with
        | val v s'=>
          rw[hs]at h
          have:=(pV hq hs).1
          subst this
          exact⟨v,rfl,.inl ⟨hg,hq,hs⟩,h⟩
        | call f args=>
          exfalso
          cases hop:o.op<;>rw[hop]at hq hs<;>(try (simp only[quiet]at hq;cases hq))<;>simp only[step]at hs
          all_goals (first|(cases hs;done)|skip)
          all_goals (try (split at hs))
          all_goals (first|(cases hs;done)|skip)
          all_goals (unfold AR.eI at hs;split at hs<;>cases hs)
        | stuck=>rw[hs]at h;exact h.elim
      | false=>exact⟨.tup [],rfl,.inr ⟨hg,rfl⟩,h.2 rfl⟩
theorem mapM_mem{α β:Type}{f:α→Option β}:∀{l:List α} {r:List β},l.mapM f=some r→∀x∈l,∃y∈r,f x=some y
  | [],_,_,x,hx=>by simp at hx
  | a::l,r,h,x,hx=>by
    rw[List.mapM_cons]at h
    cases ha:f a with
    | none=>simp[ha]at h
    | some b=>
      cases hl:l.mapM f with
      | none=>simp[ha,hl]at h
      | some bs=>
        simp[ha,hl]at h
        subst h
        rcases List.mem_cons.1 hx with rfl|hx
        · exact⟨b,by simp,ha⟩
        · obtain⟨y,hy,hf⟩:=mapM_mem hl x hx
          exact⟨y,by simp[hy],hf⟩
theorem s6{f:Nat→D→Prop}:∀{l:List (Nat×D)},qj f l→∀i d,(i,d)∈l→f i d
  | (j,e)::r,h,i,d,hm=>by
    rcases List.mem_cons.1 hm with h1|h1
    · injection h1 with h1 h2;subst h1;subst h2;exact h.1
    · exact s6 h.2 i d h1
theorem rJ{f:Nat→Option (List Nat)→D→Prop}:∀{l:List (Nat×Option (List Nat)×D)},lI f l→∀i b d,(i,b,d)∈l→f i b d
  | (j,c,e)::r,h,i,b,d,hm=>by
    rcases List.mem_cons.1 hm with h1|h1
    · simp only[Prod.mk.injEq]at h1;obtain⟨rfl,rfl,rfl⟩:=h1;exact h.1
    · exact rJ h.2 i b d h1
theorem Dp{os:List O}{af:List (List Nat)}{done:List Bool}{i:Nat}{rs:List Nat}{s s':St}(h:yc os af done i=some rs)(k:ju rs s s'):Ch os af done i s s':=by
  intro q hq hd hl
  obtain⟨r,hr,hf⟩:=mapM_mem h q (List.mem_filter.2 ⟨List.mem_range.2 hq,by rw[hd,Dr hl];rfl⟩)
  split at hf
  · rename_i r' ha
    split at hf
    · rename_i hs
      injection hf with hf;subst hf
      exact⟨r',ha,hs,k r' hr⟩
    · cases hf
  · cases hf
theorem C3{os:List O}{af:List (List Nat)}{done:List Bool}{i:Nat}{rs:List Nat}{s s':St}(h:oV os af done i=some rs)(k:ju rs s s'):Ch os af done i s s':=by
  unfold oV at h
  split at h
  · intro q hq hd hl
    obtain⟨r,hr,hf⟩:=mapM_mem h q (List.mem_filter.2 ⟨List.mem_range.2 hq,by rw[hd,hl];rfl⟩)
    split at hf
    · rename_i r' ha
      split at hf
      · rename_i hs
        injection hf with hf;subst hf
        exact⟨r',ha,hs,k r' hr⟩
      · cases hf
    · cases hf
  · cases h
theorem qe{gl:Gl}{os:List O}{af:List (List Nat)}{K:St→Prop}:∀(fuel:Nat) (done:List Bool) (d:D) (s:St),jl af done→sched os af fuel done=some d→bV P Γ gl os K fuel d s→mO P Γ gl os af K fuel done s:=by
  intro fuel
  induction fuel with
  | zero=>
    intro done d s hc hs h
    simp only[sched]at hs
    split at hs
    · rename_i he
      injection hs with hs
      subst hs
      exact⟨by simpa using he,h⟩
    · cases hs
  | succ fuel ih=>
    intro done d s hc hs h
    simp only[sched]at hs
    split at hs
    · rename_i i hf
      obtain⟨hr,hp⟩:=fV hf
      simp only[Bool.and_eq_true]at hp
      rw[Option.map_eq_some_iff]at hs
      obtain⟨d',hd,rfl⟩:=hs
      simp only[bV]at h
      obtain⟨o,v,ho,hv,hk⟩:=Dk hp.1 h
      exact ur ho (by simpa[quietAt,ho]using hp.1) fuel done s hc hp.2 hr hv (ih _ d' _ (gh hc (dh.1 hr).2.2) hd hk)
    · split at hs
      · rename_i he
        injection hs with hs
        subst hs
        have he:df os af done=[]:=by simpa using he
        exact⟨fun _=>h,by rw[he];simp⟩
      · rename_i he
        split at hs
        · rename_i i hf
          obtain⟨hr,hp⟩:=fV hf
          simp only[Bool.and_eq_true,beq_iff_eq]at hp
          rw[Option.map_eq_some_iff]at hs
          obtain⟨d',hd,rfl⟩:=hs
          simp only[bV]at h
          refine⟨fun hn=>absurd (by simp[hn]) he,fun j hj=>?_⟩
          have hji:j=i:=by rw[hp.1]at hj;simpa using hj
          subst hji
          exact fW (fun s' hs=>⟨.inl (RC hp.2),ih _ _ s' (gh hc (dh.1 hr).2.2) hd hs⟩) h
        split at hs
        · rename_i i hf
          obtain⟨hr,hp⟩:=fV hf
          simp only[Bool.and_eq_true,beq_iff_eq]at hp
          rw[Option.map_eq_some_iff]at hs
          obtain⟨d',hd,rfl⟩:=hs
          simp only[bV]at h
          refine⟨fun hn=>absurd (by simp[hn]) he,fun j hj=>?_⟩
          have hji:j=i:=by rw[hp.1.1]at hj;simpa using hj
          subst hji
          obtain⟨rs,hrs⟩:=Option.isSome_iff_exists.1 hp.2
          rw[hrs]at h
          exact fW (fun s' hs=>⟨.inr (.inr (Dp hrs hs.1)),ih _ _ s' (gh hc (dh.1 hr).2.2) hd hs.2⟩) h
        split at hs
        · rw[Option.map_eq_some_iff]at hs
          obtain⟨ds,hd,rfl⟩:=hs
          simp only[bV]at h
          refine⟨fun hn=>absurd (by simp[hn]) he,fun i hi=>?_⟩
          obtain⟨⟨j,b,d⟩,hm,hf⟩:=mapM_mem hd i hi
          rw[Option.map_eq_some_iff]at hf
          obtain⟨d',h1,h2⟩:=hf
          simp only[Prod.mk.injEq]at h2
          obtain⟨h2,h3,h4⟩:=h2
          subst h2;subst h4
          refine fW (fun s' hs=>⟨?_,ih _ _ s' (gh hc (dh.1 hi).2.2) h1 hs.2⟩) (rJ h _ _ _ hm)
          cases b with
          | some rs=>exact .inr (.inr (C3 h3 hs.1))
          | none=>exact .inr (.inl hs.1)
        rw[Option.map_eq_some_iff]at hs
        obtain⟨ds,hd,rfl⟩:=hs
        simp only[bV]at h
        refine⟨fun hn=>absurd (by simp[hn]) he,fun i hi=>?_⟩
        obtain⟨⟨j,d⟩,hm,hf⟩:=mapM_mem hd i hi
        rw[Option.map_eq_some_iff]at hf
        obtain⟨d',h1,h2⟩:=hf
        injection h2 with h2 h3
        subst h2;subst h3
        exact fW (fun s' hs=>⟨.inr (.inl hs.1),ih _ _ s' (gh hc (dh.1 hi).2.2) h1 hs.2⟩) (s6 h _ _ hm)
theorem gC{gl:Gl}{all:List O}:∀(os:List O) {K K':St→Prop} (s:St),(∀s,K s→K' s)→dI P Γ gl all os K s→dI P Γ gl all os K' s
  | [],_,_,s,hk,h=>hk s h
  | o::r,_,_,s,hk,h=>by
    simp only[dI]at h ⊢
    split
    · rename_i hg;simp[hg]at h
    · rename_i t hg
      simp only[hg]at h
      refine⟨fun ht=>?_,fun ht=>gC r _ hk (h.2 ht)⟩
      have h:=h.1 ht
      split
      · rename_i hs;rw[hs]at h;exact gC r _ hk h
      · rename_i hs;rw[hs]at h;exact h.mono fun _ s' h=>gC r _ hk h
      · rename_i hs;rw[hs]at h;exact h
theorem pD{gl:Gl}:∀(c:C) {Q Q':AE→St→Prop} (s:St),(∀e s,Q e s→Q' e s)→wa P Θ Γ gl c Q s→wa P Θ Γ gl c Q' s:=by
  intro c
  induction c with
  | skip=>exact fun s hq h=>hq _ s h
  | reg os=>exact fun s hq h=>gC os s (hq _) h
  | regD os af=>exact fun s hq h=>h.mono hq
  | seq a b iha ihb=>exact fun s hq h=>iha s (fun e s he=>by cases e<;>simp only[hJ]at he ⊢<;>first|exact ihb s hq he|exact hq _ _ he) h
  | cond c a b iha ihb=>
    intro Q Q' s hq h
    simp only[wa]at h ⊢
    split at h
    · exact⟨fun ht=>iha s hq (h.1 ht),fun ht=>ihb s hq (h.2 ht)⟩
    · exact h.elim
  | block id c ih=>exact fun s hq h=>ih s (fun e s he=>by cases e<;>simp only[gH]at he ⊢<;>(try split)<;>simp_all) h
  | loop c=>exact fun s hq h=>h.mono hq
  | exit id=>exact fun s hq h=>hq _ s h
  | ret=>exact fun s hq h=>hq _ s h
theorem au(da:cX P Θ)(hm:P.follows .mixedOrders=true)(gl:Gl):∀(c:C) (Q:AE→St→Prop) (s:St),aw P Θ Γ gl c Q s→TC P Θ Γ c Q s:=by
  suffices h:∀(c:C) (Q:AE→St→Prop) (s:St),aw P Θ Γ gl c Q s→wa P Θ Γ gl c Q s from fun c Q s ha=>TC.KE da gl (h c Q s ha)
  intro c
  induction c with
  | skip=>exact fun _ _ h=>h
  | reg os=>exact fun _ _ h=>h
  | regD os af=>
    intro Q s h
    simp only[aw]at h
    split at h
    · rename_i d hd
      exact zn da hm gl (qe _ _ d s (qt _ _) hd h)
    · exact h.elim
  | seq a b iha ihb=>
    intro Q s h
    exact pD a s (fun e s he=>by cases e<;>simp only[hJ]at he ⊢<;>first|exact ihb Q s he|exact he) (iha _ s h)
  | cond c a b iha ihb=>
    intro Q s h
    simp only[aw,wa]at h ⊢
    split at h
    · rename_i t ht
      simp only[ht]
      exact⟨fun ht=>iha Q s (h.1 ht),fun ht=>ihb Q s (h.2 ht)⟩
    · exact h.elim
  | block id c ih=>exact fun Q s h=>ih _ s h
  | loop c=>exact fun _ _ h=>h
  | exit id=>exact fun _ _ h=>h
  | ret=>exact fun _ _ h=>h
end
end Go.AM
