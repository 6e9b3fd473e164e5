import Derived.Test.YtolciaflplefcaaGreatAmG4
set_option linter.unusedVariables false
set_option linter.unusedSimpArgs false
open List renaming getD_eq_getElem?_getD→Aaa,getElem?_eq_getElem→Aac,all_eq_true→Aad,getElem?_set_self→Aae,getElem?_eq_none→Aaf,getElem?_replicate→Aag,mem_range→Aai,map_congr_left→Aak,getElem?_append_left→Aal,mem_flatMap→Aan,mem_filter→Aap,length_set→Aar,getElem?_set_ne→Aas,mem_append_left→Aat,mem_cons→Aau,mem_filterMap→Aaw,set_comm→Aax
open Option renaming map_eq_some_iff→Aab,bind_some→Aaj
open Nat renaming lt_or_ge→Aah
open Bool renaming false_or→Aam,and_eq_true→Aao,or_eq_true→Aaq,false_eq_true→Aav,not_true→Aay
namespace Go.AM
def quiet:I→Bool
 | .alloc _|.box _|.bsl .. | .store .. | .cvb _|.mks .. | .app .. | .appz .. | .clr .. | .copy .. | .call .. | .bad=>false
 | _=>true
def Ai:I→Bool
 | .load .. | .cvt _=>false
 | i=>quiet i
def X.tm:X→List Nat|.t n=>[n]|_=>[]
def xsT(xs:List X):List Nat:=xs.flatMap X.tm
def oT:Option X→List Nat|some x=>x.tm|none=>[]
def looks:I→List Nat
 | .mov x|.box x|.nilchk x|.un _ x|.cvi _ x|.cvs x|.cvb x|.cvt x|.fld _ x|.extr x _|.len _ x|.cap x|.clr _ _ x=>x.tm
 | .pick c a b=>c.tm++(a.tm++b.tm)
 | .alloc _|.lenc _=>[]
 | .build _ ps=>ps.flatMap fun p=>p.2.2.tm
 | .bsl _ _ _ ps=>ps.flatMap fun p=>p.2.tm
 | .load _ _ a=>a.tm
 | .store _ a v=>a.tm++v.tm
 | .bin _ _ x y=>x.tm++y.tm
 | .mkf _ a b=>xsT a++xsT b
 | .mks _ _ _ l c|.appz _ _ _ l c=>l.tm++c.tm
 | .slice _ x lo hi mx=>x.tm++(oT lo++(oT hi++oT mx))
 | .idxs _ x i|.idxa _ _ x i|.idxstr x i|.idxagg _ _ _ x i=>x.tm++i.tm
 | .app _ _ _ _ x y|.copy _ _ x y=>x.tm++y.tm
 | .mm _ xs=>xsT xs
 | .call f args=>f.tm++xsT args
 | .bad=>[]
def ui(os:List O)(o:O):List Nat:=
 looks o.op++match o.gd with|some (j,_)=>((os[j]?).bind (·.dst)).toList|none=>[]
section
variable {P:Program} {Θ:ub} {Γ:bG}
def AR.G3(e:List AV):AR→AR
 | .val v s=>.val v { s with env:=e }
 | r=>r
theorem b7{s:St}{e:List AV}{x:X}(h:∀t∈x.tm,e[t]? = s.env[t]?):({ s with env:=e }:St).eval Γ x=s.eval Γ x:=by
 cases x with
 | t n=>simp[St.eval,Aaa,h n (by simp[X.tm])]
 | c v=>rfl
 | g n=>rfl
theorem v8{s:St}{e:List AV}{xs:List X}(h:∀t∈xsT xs,e[t]? = s.env[t]?):xs.map (({ s with env:=e }:St).eval Γ)=xs.map (s.eval Γ):=
 Aak fun x hx=>b7 fun t ht=>h t (Aan.2 ⟨x,hx,ht⟩)
theorem Ek{s:St}{e:List AV}{d:Nat}{o:Option X}(h:∀t∈oT o,e[t]? = s.env[t]?):AG Γ { s with env:=e } d o=AG Γ s d o:=by
 cases o with
 | none=>rfl
 | some x=>simp only[AG];rw[b7 h]
theorem I9{s:St}{e:List AV}(a:AV)(n:Nat):({ s with env:=e }:St).cells a n=s.cells a n:=by cases a<;>rfl
theorem Cc{s:St}{e:List AV}(n:Nat)(a:AV):({ s with env:=e }:St).b6 n a=s.b6 n a:=by cases a<;>rfl
theorem zx{s:St}{e:List AV}(a:AV)(cs:List AV):({ s with env:=e }:St).store a cs=(s.store a cs).map fun s'=>{ s' with env:=e }:=by
 cases a<;>try rfl
 case lp i off=>
  simp only[St.store];cases s.loc[i]? with
  | none=>rfl
  | some l=>simp only[Aaj];split<;>(try split)<;>rfl
 case gp b g off=>
  simp only[St.store];cases cF s.heap b with
  | none=>rfl
  | some l=>simp only[Aaj];split<;>(try split)<;>(try split)<;>rfl
theorem yj{s:St}{e:List AV}(n:Nat)(b:Bool)(a:AV):iU { s with env:=e } n b a=iU s n b a:=by
 cases b<;>cases a<;>rfl
theorem Js{s:St}{e:List AV}(sz bytes:Nat)(z:List AV)(n:Int):Gj { s with env:=e } sz bytes z n=(Gj s sz bytes z n).map fun p=>(p.1,{ p.2 with env:=e }):=by
 unfold Gj;split
 ·split<;>rfl
 ·rfl
theorem L5{s:St}{e:List AV}(sz bytes:Nat)(z:List AV)(ln cp:Int):Jo { s with env:=e } sz bytes z ln cp=(Jo s sz bytes z ln cp).map fun p=>(p.1,{ p.2 with env:=e }):=by
 unfold Jo;split
 ·split<;>rfl
 ·rfl
theorem Lb{s:St}{e:List AV}(sz bytes:Nat)(x:AV)(ys:List AV)(n m:Nat):sS { s with env:=e } sz bytes x ys n m=(sS s sz bytes x ys n m).map fun p=>(p.1,{ p.2 with env:=e }):=by
 unfold sS;split
 ·rfl
 split
 ·rfl
 cases x<;>try rfl
 ·simp only;split
  ·rfl
  split<;>rfl
 ·simp only;cases cF s.heap _ with
  | none=>rfl
  | some l=>
   simp only[Aaj];split
   ·split
    ·split
     ·split
      ·split<;>rfl
      ·cases sub l.2 _ _<;>rfl
     ·rfl
    ·rfl
   ·rfl
 ·simp only;split
  ·rfl
  split
  ·split
   ·split
    ·split<;>rfl
    ·rfl
   ·rfl
  ·rfl
theorem Mg{s:St}{e:List AV}(sz:Nat)(z:List AV)(x:AV):Cx { s with env:=e } sz z x=(Cx s sz z x).map fun s'=>{ s' with env:=e }:=by
 unfold Cx;split
 ·rfl
 ·split
  ·rfl
  ·split
   ·exact zx _ _
   ·rfl
 ·rfl
 ·rfl
theorem Ja{s:St}{e:List AV}(sz:Nat)(x:AV)(ys:List AV)(n:Nat):Iv { s with env:=e } sz x ys n=(Iv s sz x ys n).map fun p=>(p.1,{ p.2 with env:=e }):=by
 unfold Iv;split
 ·rfl
 ·split
  ·rw[zx];simp[Option.map_map,Function.comp_def]
  ·rfl
 ·rfl
theorem lH{s:St}{e:List AV}(o:Option AV):AR.nD { s with env:=e } o=(AR.nD s o).G3 e:=by cases o<;>rfl
theorem IL{e:List AV}(o:Option St):AR.G5 (o.map fun s'=>{ s' with env:=e })=(AR.G5 o).G3 e:=by cases o<;>rfl
theorem AP{e:List AV}(o:Option (AV×St)):AR.JA (o.map fun p=>(p.1,{ p.2 with env:=e }))=(AR.JA o).G3 e:=by cases o<;>rfl
theorem Bu{s:St}{e:List AV}{gl:Bool}(i:I)(h:∀t∈looks i,e[t]? = s.env[t]?):step Γ gl { s with env:=e } i=(step Γ gl s i).G3 e:=by
 cases i<;>simp only[looks,List.mem_append]at h<;>simp only[step]
 case mov x=>rw[b7 h];rfl
 case pick c a b=>
  rw[b7 (x:=c) fun t ht=>h t (.inl ht),b7 (x:=a) fun t ht=>h t (.inr (.inl ht)),b7 (x:=b) fun t ht=>h t (.inr (.inr ht))];cases s.eval Γ c<;>rfl
 case alloc z=>split<;>(try split)<;>rfl
 case box x=>
  rw[b7 h];cases cellsOf (s.eval Γ x)with
  | none=>rfl
  | some cs=>simp only;split<;>(try split)<;>rfl
 case build z ps=>
  rw[Aak (g:=fun p:Nat×Nat×X=>(p.1,p.2.1,s.eval Γ p.2.2)) fun p hp=>by rw[b7 fun t ht=>h t (Aan.2 ⟨p,hp,ht⟩)]];exact lH _
 case bsl sz len z ps=>
  rw[Aak (g:=fun p:Nat×X=>(p.1*sz,sz,s.eval Γ p.2)) fun p hp=>by rw[b7 fun t ht=>h t (Aan.2 ⟨p,hp,ht⟩)]];cases mg _ _ with
  | none=>rfl
  | some cs=>simp only;split<;>rfl
 case load n agg a=>rw[b7 h,I9];exact lH _
 case store n a v=>
  rw[b7 (x:=v) fun t ht=>h t (.inr ht),b7 (x:=a) fun t ht=>h t (.inl ht)];cases cellsOf (s.eval Γ v)with
  | none=>rfl
  | some cs=>
   simp only;split
   ·rw[zx];exact IL _
   ·rfl
 case nilchk x=>
  rw[b7 h];cases isNil (s.eval Γ x)with
  | none=>rfl
  | some b=>cases b<;>rfl
 case bin op ek x y=>rw[b7 (x:=x) fun t ht=>h t (.inl ht),b7 (x:=y) fun t ht=>h t (.inr ht)];exact lH _
 case un op x=>rw[b7 h];exact lH _
 case cvi k x=>rw[b7 h];cases s.eval Γ x<;>rfl
 case cvs x=>rw[b7 h];cases s.eval Γ x<;>rfl
 case cvb x=>
  rw[b7 h];cases s.eval Γ x<;>try rfl
  simp only;split<;>rfl
 case cvt x=>rw[b7 h,Cc];exact lH _
 case mkf f first caps=>rw[v8 fun t ht=>h t (.inl ht),v8 fun t ht=>h t (.inr ht)];rfl
 case mks sz bytes z l c=>
  rw[b7 (x:=l) fun t ht=>h t (.inl ht),b7 (x:=c) fun t ht=>h t (.inr ht)];cases s.eval Γ l<;>try rfl
  cases s.eval Γ c<;>try rfl
  simp only;rw[L5];exact AP _
 case appz sz bytes z l c=>
  rw[b7 (x:=l) fun t ht=>h t (.inl ht),b7 (x:=c) fun t ht=>h t (.inr ht)];cases s.eval Γ l<;>try rfl
  cases s.eval Γ c<;>try rfl
  simp only;rw[Js];exact AP _
 case slice k x lo hi mx=>
  rw[b7 (x:=x) fun t ht=>h t (.inl ht),Ek (o:=lo) fun t ht=>h t (.inr (.inl ht))];have e1:∀y,hi=some y→AG Γ { s with env:=e } 0 (some y)=AG Γ s 0 (some y):=fun y hy=>Ek (o:=some y) fun t ht=>h t (.inr (.inr (.inl (by rw[hy];exact ht))));have e2:∀y,mx=some y→AG Γ { s with env:=e } 0 (some y)=AG Γ s 0 (some y):=fun y hy=>Ek (o:=some y) fun t ht=>h t (.inr (.inr (.inr (by rw[hy];exact ht))));cases hi<;>cases mx<;>(first|simp only[e1 _ rfl,e2 _ rfl]|simp only[e1 _ rfl]|simp only[e2 _ rfl]|dsimp only)<;>(split<;>first|exact lH _|rfl)
 case fld off x=>rw[b7 h];exact lH _
 case idxs sz x i=>
  rw[b7 (x:=x) fun t ht=>h t (.inl ht),b7 (x:=i) fun t ht=>h t (.inr ht)];cases s.eval Γ i<;>try rfl
  exact lH _
 case idxa n sz x i=>
  rw[b7 (x:=x) fun t ht=>h t (.inl ht),b7 (x:=i) fun t ht=>h t (.inr ht)];cases s.eval Γ i<;>try rfl
  exact lH _
 case idxstr x i=>
  rw[b7 (x:=x) fun t ht=>h t (.inl ht),b7 (x:=i) fun t ht=>h t (.inr ht)];split
  ·exact lH _
  ·rfl
 case idxagg n sz agg x i=>
  rw[b7 (x:=x) fun t ht=>h t (.inl ht),b7 (x:=i) fun t ht=>h t (.inr ht)];split
  ·exact lH _
  ·rfl
 case extr x i=>
  rw[b7 h];cases s.eval Γ x<;>try rfl
  exact lH _
 case len str x=>rw[b7 h];exact lH _
 case lenc n=>rfl
 case cap x=>
  rw[b7 h];split<;>first|rfl|(rename_i h1;cases h1)
 case app sz bytes z str x y=>
  rw[b7 (x:=x) fun t ht=>h t (.inl ht),b7 (x:=y) fun t ht=>h t (.inr ht),yj];split
  ·rw[Lb];exact AP _
  ·rfl
 case clr sz z x=>rw[b7 h,Mg];exact IL _
 case copy sz str x y=>
  rw[b7 (x:=x) fun t ht=>h t (.inl ht),b7 (x:=y) fun t ht=>h t (.inr ht),yj];split
  ·rw[Ja];exact AP _
  ·rfl
 case mm mx xs=>rw[v8 h];exact lH _
 case bad=>rfl
 case call f args=>
  rw[b7 (x:=f) fun t ht=>h t (.inl ht),v8 fun t ht=>h t (.inr ht)];cases s.eval Γ f<;>rfl
def Mem(s s':St):Prop:=(∀(i:Nat) l,s.loc[i]? = some l→s'.loc[i]? = some l)∧∀b e,cF s.heap b=some e→cF s'.heap b=some e
theorem Mem.refl(s:St):Mem s s:=⟨fun _ _ h=>h,fun _ _ h=>h⟩
theorem Mem.loc(s:St)(env:List AV)(l:List (List AV)):Mem s ⟨env,s.loc++l,s.heap⟩:=
 ⟨fun i x h=>by rw[Aal (aL h)];exact h,fun _ _ h=>h⟩
theorem Mem.heap(s:St)(env:List AV)(l:AH):Mem s ⟨env,s.loc,s.heap++l⟩:=
 ⟨fun _ _ h=>h,fun b x h=>by have h:=fC h;exact DE (by rw[Aal (aL h)];exact h)⟩
theorem Mem.env(s:St)(env:List AV):Mem s ⟨env,s.loc,s.heap⟩:=⟨fun _ _ h=>h,fun _ _ h=>h⟩
theorem DD{s s':St}(m:Mem s s'){a:AV}{n:Nat}{cs:List AV}(h:s.cells a n=some cs):s'.cells a n=some cs:=by
 cases a<;>simp only[St.cells]at h ⊢<;>try exact h
 ·obtain⟨l,h1,h2⟩:=qd h;rw[m.1 _ _ h1];exact h2
 ·obtain⟨l,h1,h2⟩:=qd h;rw[m.2 _ _ h1];exact h2
theorem BE{s s':St}(m:Mem s s'){a:AV}{n:Nat}{cs:List AV}(h:s.b6 n a=some cs):s'.b6 n a=some cs:=by
 cases a
 case opq v=>
  have e:∀t:St,t.b6 n (.opq v)=(⟨[],[],[]⟩:St).b6 n (.opq v):=fun t=>by
   unfold St.b6;split<;>first|rfl|(rename_i he;cases he;done)|skip
  rw[e]at h ⊢;exact h
 case gs=>
  simp only[St.b6]at h ⊢;split at h
  ·rename_i hs;rw[if_pos hs];obtain⟨l,h1,h2⟩:=qd h;rw[m.2 _ _ h1];exact h2
  ·cases h
 all_goals (simp only[St.b6]at h ⊢<;>exact h)
theorem AK{s s':St}{o:Option AV}{v:AV}(h:AR.nD s o=.val v s'):s'=s∧o=some v:=by
 cases o with
 | none=>simp[AR.nD]at h
 | some x=>simp[AR.nD]at h;exact⟨h.2.symm,by rw[h.1]⟩
theorem Bn{s s1:St}{gl:Bool}{i:I}{v:AV}(hq:quiet i=true)(h:step Γ gl s i=.val v s1):
 s1=s∧∀s':St,s'.env=s.env→(Ai i=true∨Mem s s')→step Γ gl s' i=.val v s':=by
 have ev:∀(s':St),s'.env=s.env→s'.eval Γ=s.eval Γ:=fun s' he=>by
  funext x;cases x<;>simp[St.eval,he]
 have bn:∀(s':St),s'.env=s.env→∀d o,AG Γ s' d o=AG Γ s d o:=fun s' he d o=>by
  cases o<;>simp[AG,ev s' he]
 have fin:∀{o:Option AV},AR.nD s o=.val v s1→s1=s∧∀s':St,AR.nD s' o=.val v s':=fun{o} h=>by
  obtain⟨h1,h2⟩:=AK h;exact⟨h1,fun s'=>by rw[h2];rfl⟩
 cases i<;>(try (simp only[quiet]at hq;cases hq))<;>simp only[step]at h ⊢
 case mov x=>injection h with h1 h2;exact⟨h2.symm,fun s' he _=>by rw[ev s' he,h1]⟩
 case pick c a b=>
  cases hc:s.eval Γ c<;>simp only[hc]at h<;>try cases h
  exact⟨rfl,fun s' he _=>by rw[ev s' he];simp only[hc]⟩
 case build z ps=>exact⟨(fin h).1,fun s' he _=>by rw[ev s' he];exact(fin h).2 s'⟩
 case load n agg a=>
  obtain⟨h1,h2⟩:=AK h;refine⟨h1,fun s' he m=>?_⟩;obtain⟨cs,h3,h4⟩:=qd h2;rw[ev s' he,DD (m.resolve_left (by simp[Ai])) h3];simp[h4,AR.nD]
 case nilchk x=>
  cases hc:isNil (s.eval Γ x)with
  | none=>simp[hc]at h
  | some b=>
   cases b<;>simp[hc]at h;exact⟨h.2.symm,fun s' he _=>by rw[ev s' he,hc];simp only;rw[h.1]⟩
 case bin op ek x y=>exact⟨(fin h).1,fun s' he _=>by rw[ev s' he];exact(fin h).2 s'⟩
 case un op x=>exact⟨(fin h).1,fun s' he _=>by rw[ev s' he];exact(fin h).2 s'⟩
 case cvi k x=>
  cases hc:s.eval Γ x<;>simp only[hc]at h<;>try cases h
  exact⟨rfl,fun s' he _=>by rw[ev s' he,hc]⟩
 case cvs x=>
  cases hc:s.eval Γ x<;>simp only[hc]at h<;>try cases h
  exact⟨rfl,fun s' he _=>by rw[ev s' he,hc]⟩
 case cvt x=>
  obtain⟨h1,h2⟩:=AK h;refine⟨h1,fun s' he m=>?_⟩;cases hs:s.b6 1 (s.eval Γ x)with
  | none=>simp[hs]at h2
  | some cs=>rw[ev s' he,BE (m.resolve_left (by simp[Ai])) hs];simp only[hs]at h2;rw[h2];rfl
 case mkf f first caps=>injection h with h1 h2;exact⟨h2.symm,fun s' he _=>by rw[ev s' he,h1]⟩
 case slice k x lo hi mx=>
  split at h
  ·rename_i l h' m' e1 e2 e3;refine⟨(fin h).1,fun s' he _=>?_⟩;simp only[bn s' he,e1,e2,e3,ev s' he];exact(fin h).2 s'
  ·cases h
 case fld off x=>exact⟨(fin h).1,fun s' he _=>by rw[ev s' he];exact(fin h).2 s'⟩
 case idxs sz x i=>
  cases hc:s.eval Γ i<;>simp only[hc]at h<;>try cases h
  exact⟨(fin h).1,fun s' he _=>by rw[ev s' he,hc];exact(fin h).2 s'⟩
 case idxa n sz x i=>
  cases hc:s.eval Γ i<;>simp only[hc]at h<;>try cases h
  exact⟨(fin h).1,fun s' he _=>by rw[ev s' he,hc];exact(fin h).2 s'⟩
 case idxstr x i=>
  split at h
  ·rename_i e1 e2;exact⟨(fin h).1,fun s' he _=>by rw[ev s' he,e1,e2];exact(fin h).2 s'⟩
  ·cases h
 case idxagg n sz agg x i=>
  split at h
  ·rename_i e1 e2;exact⟨(fin h).1,fun s' he _=>by rw[ev s' he,e1,e2];exact(fin h).2 s'⟩
  ·cases h
 case extr x i=>
  cases hc:s.eval Γ x<;>simp only[hc]at h<;>try cases h
  exact⟨(fin h).1,fun s' he _=>by rw[ev s' he,hc];exact(fin h).2 s'⟩
 case len str x=>exact⟨(fin h).1,fun s' he _=>by rw[ev s' he];exact(fin h).2 s'⟩
 case lenc n=>injection h with h1 h2;exact⟨h2.symm,fun s' he _=>by rw[h1]⟩
 case cap x=>
  split at h
  ·rename_i e1;injection h with h1 h2;exact⟨h2.symm,fun s' he _=>by rw[ev s' he,e1];simp only;rw[h1]⟩
  ·rename_i e1;injection h with h1 h2;exact⟨h2.symm,fun s' he _=>by rw[ev s' he,e1];simp only;rw[h1]⟩
  ·cases h
 case mm mx xs=>exact⟨(fin h).1,fun s' he _=>by rw[ev s' he];exact(fin h).2 s'⟩
def Bo(P:Program)(Γ:bG)(gl:Gl)(os:List O)(i:Nat)(K:St→Prop)(s:St):Prop:=
 match os[i]? with
 | none=>K s
 | some o=>
  match guardOf os s o.gd with
  | none=>False
  | some t=>br t
   (match step Γ (sJ gl o) s o.op with
    | .val v s'=>K (s'.put o.dst v)
    | .call f args=>al P Γ f args s fun v s'=>K (s'.put o.dst v)
    | .stuck=>False)
   (K (s.put o.dst (.tup [])))
def gH(os:List O)(af:List (List Nat))(done:List Bool):List Nat:=
 (List.range os.length).filter fun i=>!(done.getD i true) && (af.getD i []).all fun j=>done.getD j false
def ue(af:List (List Nat)):Nat→List Bool→List Bool
 | 0,S=>S
 | k+1,S=>ue af k (if S.getD k false=true then (af.getD k []).foldl (fun S e=>S.set e true) S else S)
def BC(os:List O)(i:Nat):Bool:=match os[i]? with|some o=>Ai o.op|none=>false
def xA(os:List O)(i:Nat):Bool:=match os[i]? with|some o=>Ai o.op || !quiet o.op|none=>false
def xt(os:List O)(af:List (List Nat))(done:List Bool)(i:Nat):Bool:=
 (List.range done.length).all fun q=>!(done.getD q false) || xA os q || (ue af i ((af.getD i []).foldl (fun S e=>S.set e true) (List.replicate done.length false))).getD q false
def Ds(os:List O)(af:List (List Nat))(n i q:Nat):Bool:=
 xA os q || (ue af i ((af.getD i []).foldl (fun S e=>S.set e true) (List.replicate n false))).getD q false
def yR(os:List O)(q:Nat):Option Nat:=match os[q]? with|some ⟨_,_,.load _ _ (.t r)⟩=>some r|_=>none
def IF(os:List O)(af:List (List Nat))(q r:Nat):Bool:=(List.range os.length).all fun p=>(match os[p]? with|some o=>o.dst != some r|none=>true) || (af.getD q []).contains p
def Safe(s s':St)(p:AV):Prop:=∀n cs,s.cells p n=some cs→s'.cells p n=some cs
def jB(rs:List Nat)(s s':St):Prop:=∀r∈rs,Safe s s' (s.env.getD r .any)
def L6(os:List O)(af:List (List Nat))(done:List Bool)(i:Nat)(s s':St):Prop:=
 ∀q,q<done.length→done.getD q false=true→Ds os af done.length i q=false→∃r,yR os q=some r∧IF os af q r=true∧Safe s s' (s.env.getD r .any)
def xE(P:Program)(Γ:bG)(gl:Gl)(os:List O)(af:List (List Nat))(K:St→Prop):Nat→List Bool→St→Prop
 | 0,done,s=>gH os af done=[]∧K s
 | fuel+1,done,s=>(gH os af done=[]→K s)∧∀i∈gH os af done,Bo P Γ gl os i (fun s'=>(xt os af done i=true∨Mem s s'∨L6 os af done i s s')∧xE P Γ gl os af K fuel (done.set i true) s') s
theorem al.env{f:FuncId}{args:List AV}{s:St}{K:AV→St→Prop}(e:List AV)(h:al P Γ f args { s with env:=e } K):al P Γ f args s fun v s'=>K v { s' with env:=e }:=by
 intro ρ ls w cargs m g ra;obtain⟨h1,h2⟩:=h ρ ls w cargs m g ra;refine⟨h1,h2.mono ?_⟩;rintro x w' ⟨cv,v,s',ρ',ls',e1,e2,e3,e4,e5,e6⟩;refine⟨cv,v,{ s' with env:=s.env },ρ',ls',e1,rfl,e3,e4,e5,?_⟩;have:({ s' with env:=e }:St)=s':=by cases s';simp only at e2;subst e2;rfl
 simpa[this]using e6
def jq(e:List AV)(d:Option Nat)(v:AV):List AV:=match d with|some d=>e.set d v|none=>e
theorem put_eq(s:St)(d:Option Nat)(v:AV):s.put d v={ s with env:=jq s.env d v }:=by cases d<;>rfl
theorem I5(e:List AV){d d':Option Nat}(v v':AV)(h:∀x,d=some x→d'≠some x):jq (jq e d v) d' v'=jq (jq e d' v') d v:=by
 cases d with
 | none=>rfl
 | some d=>
  cases d' with
  | none=>rfl
  | some d'=>
   have:d≠d':=fun hx=>h d rfl (by rw[hx]);simp only[jq];exact(Aax _ _ this)
theorem D8(e:List AV){d:Option Nat}(v:AV){t:Nat}(h:∀x,d=some x→x≠t):(jq e d v)[t]? = e[t]?:=by
 cases d with
 | none=>rfl
 | some d=>simp only[jq];exact Aas (h d rfl)
def Be(os:List O)(x y:O):Bool:=
 (match x.dst with|some d=>!(ui os y).contains d && y.dst != some d|none=>true) && (match y.dst with|some d=>!(ui os x).contains d|none=>true)
theorem FA{os:List O}{x y:O}(h:Be os x y=true):(∀d,x.dst=some d→d∉ui os y)∧(∀d,x.dst=some d→y.dst≠some d)∧(∀d,y.dst=some d→d∉ui os x):=by
 refine⟨fun d hd=>?_,fun d hd=>?_,fun d hd=>?_⟩<;>simp[Be,hd]at h
 ·exact h.1.1
 ·exact h.1.2
 ·exact h.2
theorem u0{os:List O}{s:St}{e:List AV}{o:O}(h:∀t∈ui os o,e[t]? = s.env[t]?):guardOf os { s with env:=e } o.gd=guardOf os s o.gd:=by
 unfold guardOf;cases hg:o.gd with
 | none=>rfl
 | some jw=>
  obtain⟨j,want⟩:=jw;simp only;cases hb:(os[j]?).bind (·.dst)with
  | none=>rfl
  | some d=>simp only[h d (by simp[ui,hg,hb])]
def QV(Γ:bG)(gl:Gl)(os:List O)(o:O)(v:AV)(s:St):Prop:=
 (guardOf os s o.gd=some true∧quiet o.op=true∧step Γ (sJ gl o) s o.op=.val v s)∨(guardOf os s o.gd=some false∧v=.tup [])
theorem QV.env{gl:Gl}{os:List O}{o:O}{v:AV}{s:St}(h:QV Γ gl os o v s){e:List AV}(he:∀t∈ui os o,e[t]? = s.env[t]?):QV Γ gl os o v { s with env:=e }:=by
 rcases h with⟨h1,h2,h3⟩|⟨h1,h2⟩
 ·refine .inl ⟨by rw[u0 he];exact h1,h2,?_⟩;rw[Bu _ fun t ht=>he t (Aat _ ht),h3];rfl
 ·exact .inr ⟨by rw[u0 he];exact h1,h2⟩
theorem qG{os:List O}{s s':St}(he:s'.env=s.env)(g:Option (Nat×Bool)):guardOf os s' g=guardOf os s g:=by
 unfold guardOf;rw[he]
theorem QV.mem{gl:Gl}{os:List O}{o:O}{v:AV}{s s':St}(h:QV Γ gl os o v s)(he:s'.env=s.env)(m:Ai o.op=true∨Mem s s'):QV Γ gl os o v s':=by
 rcases h with⟨h1,h2,h3⟩|⟨h1,h2⟩
 ·exact .inl ⟨by rw[qG he];exact h1,h2,(Bn h2 h3).2 s' he m⟩
 ·exact .inr ⟨by rw[qG he];exact h1,h2⟩
theorem QV.keep{gl:Gl}{os:List O}{o:O}{v:AV}{s s':St}(h:QV Γ gl os o v s)(he:s'.env=s.env){n:Nat}{b:Bool}{r:Nat}(ho:o.op=.load n b (.t r))(hs:Safe s s' (s.env.getD r .any)):QV Γ gl os o v s':=by
 rcases h with⟨h1,h2,h3⟩|⟨h1,h2⟩
 ·refine .inl ⟨by rw[qG he];exact h1,h2,?_⟩;rw[ho]at h3 ⊢;simp only[step,St.eval]at h3 ⊢;obtain⟨_,h4⟩:=AK h3;obtain⟨cs,h5,h6⟩:=qd h4;rw[he,hs n cs h5];simp[h6,AR.nD]
 ·exact .inr ⟨by rw[qG he];exact h1,h2⟩
theorem QV.Bo{gl:Gl}{os:List O}{i:Nat}{o:O}{v:AV}{s:St}(hi:os[i]? = some o)(h:QV Γ gl os o v s){K:St→Prop}(hk:K (s.put o.dst v)):Go.AM.Bo P Γ gl os i K s:=by
 unfold Go.AM.Bo;simp only[hi];rcases h with⟨h1,h2,h3⟩|⟨h1,rfl⟩
 ·simp only[h1,h3];exact⟨fun _=>hk,fun h=>by cases h⟩
 ·simp only[h1];exact⟨fun h=>(by cases h),fun _=>hk⟩
theorem kI{gl:Gl}{os:List O}{i:Nat}{K K':St→Prop}{s:St}(hk:∀s,K s→K' s)(h:Bo P Γ gl os i K s):Bo P Γ gl os i K' s:=by
 unfold Bo at *;split
 ·simp_all
 ·rename_i o ho;simp only[ho]at h;split
  ·rename_i hg;simp[hg]at h
  ·rename_i t hg;simp only[hg]at h;refine⟨fun ht=>?_,fun ht=>hk _ (h.2 ht)⟩;have h:=h.1 ht;split
   ·rename_i v s' hs;rw[hs]at h;exact hk _ h
   ·rename_i f args hs;rw[hs]at h;exact h.mono fun _ _=>hk _
   ·rename_i hs;rw[hs]at h;exact h
theorem Nr{gl:Gl}{os:List O}{j:Nat}{oi oj:O}{v:AV}{s:St}{K:St→Prop}(hj:os[j]? = some oj)(hap:Be os oi oj=true)(hv:QV Γ gl os oi v s)
 (hK:∀s',K s'→(Ai oi.op=true∨Mem (s.put oi.dst v) s')∨∃(n:Nat) (b:Bool) (r:Nat),oi.op=.load n b (.t r)∧Safe s s' (s.env.getD r .any)) (h:Bo P Γ gl os j K (s.put oi.dst v)):Bo P Γ gl os j (fun s'=>QV Γ gl os oi v s'∧K (s'.put oi.dst v)) s:=by
 obtain⟨a1,a2,a3⟩:=FA hap;have e1:∀t∈ui os oj,(jq s.env oi.dst v)[t]? = s.env[t]?:=fun t ht=>D8 _ _ fun x hx hxt=>a1 x hx (hxt▸ht);have e2:∀(e:List AV) (u:AV),∀t∈ui os oi,(jq e oj.dst u)[t]? = e[t]?:=fun e u t ht=>D8 _ _ fun x hx hxt=>a3 x hx (hxt▸ht);have mem:∀{s':St} {u:AV},K ({ s' with env:=jq (jq s.env oj.dst u) oi.dst v }:St)→(Ai oi.op=true∨Mem s ({ s' with env:=jq s.env oj.dst u }:St))∨∃(n:Nat) (b:Bool) (r:Nat),oi.op=.load n b (.t r)∧Safe s s' (s.env.getD r .any):=fun{s' u} hk=>(hK _ hk).imp (fun h=>h.imp id fun this=>by rw[put_eq]at this;exact⟨this.1,this.2⟩) id;have fin:∀(s':St) (u:AV),s'.env=s.env→K (({ s' with env:=jq s.env oi.dst v }:St).put oj.dst u)→QV Γ gl os oi v (s'.put oj.dst u)∧K ((s'.put oj.dst u).put oi.dst v):=by
  intro s' u he hk;rw[put_eq]at hk;simp only at hk;rw[I5 _ _ _ (fun x hx=>a2 x hx)]at hk;have hm:=mem (s':=s') hk;rw[put_eq,put_eq];simp only[he];refine⟨?_,hk⟩;have:QV Γ gl os oi v ({ s' with env:=s.env }:St):=by
   rcases hm with hm|⟨n,b,r,q1,q2⟩
   ·exact QV.mem (s':={ s' with env:=s.env }) hv rfl (hm.imp id fun m=>⟨m.1,m.2⟩)
   ·exact QV.keep (s':={ s' with env:=s.env }) hv rfl q1 q2
  exact this.env (e2 _ _)
 unfold Bo at h ⊢;simp only[hj]at h ⊢;rw[put_eq]at h;rw[u0 e1]at h;rw[Bu _ fun t ht=>e1 t (Aat _ ht)]at h;split at h
 ·exact h.elim
 ·rename_i t hg;refine⟨fun ht=>?_,fun ht=>?_⟩
  ·have h:=h.1 ht;cases hs:step Γ (sJ gl oj) s oj.op with
   | val u s1=>
    rw[hs]at h;simp only[AR.G3]at h ⊢;have he:s1.env=s.env:=by
     have:=Bu (Γ:=Γ) (gl:=sJ gl oj) (s:=s) (e:=s.env) oj.op (fun _ _=>rfl);rw[show({ s with env:=s.env }:St)=s from rfl,hs]at this;simp only[AR.G3,AR.val.injEq,true_and]at this;rw[this]
    exact fin s1 u he h
   | call f args=>
    rw[hs]at h;simp only[AR.G3]at h ⊢;intro ρ ls w cargs m g ra;obtain⟨h1,h2⟩:=h ρ ls w cargs m g ra;refine⟨h1,h2.mono ?_⟩;rintro x w' ⟨cv,u,s',ρ',ls',q1,q2,q3,q4,q5,q6⟩;refine⟨cv,u,{ s' with env:=s.env },ρ',ls',q1,rfl,q3,q4,q5,?_⟩;refine fin _ u rfl ?_;have:({ s' with env:=jq s.env oi.dst v }:St)=s':=by cases s';simp only at q2;subst q2;rfl
    simpa[this]using q6
   | stuck=>rw[hs]at h;exact h.elim
  ·have h:=h.2 ht;exact fin s _ rfl h
theorem gA{os:List O}{af:List (List Nat)}{done:List Bool}{j:Nat}:j∈gH os af done↔j<os.length∧done.getD j true=false∧∀e∈af.getD j [],done.getD e false=true:=by
 unfold gH;simp[Aap,Aad]
theorem kU{l:List Bool}{i j:Nat}(d:Bool)(h:i≠j):(l.set i true).getD j d=l.getD j d:=by
 simp[Aaa,Aas h]
theorem rI{l:List Bool}{i j:Nat}(h:l.getD j false=true):(l.set i true).getD j false=true:=by
 by_cases hij:i=j
 ·subst hij;have hlt:i<l.length:=by
   rcases Aah i l.length with h'|h'
   ·exact h'
   ·simp[Aaa,Aaf h']at h
  simp[Aaa,Aae hlt]
 ·rw[kU false hij];exact h
theorem vl{os:List O}{af:List (List Nat)}{done:List Bool}{i j:Nat}(hj:j∈gH os af done)(hne:j≠i):j∈gH os af (done.set i true):=by
 rw[gA]at *;exact⟨hj.1,by rw[kU true (Ne.symm hne)];exact hj.2.1,fun e he=>rI (hj.2.2 e he)⟩
def BA(os:List O)(af:List (List Nat))(done:List Bool)(i:Nat):Bool:=
 match os[i]? with
 | none=>false
 | some oi=>(List.range os.length).all fun j=>j == i || done.getD j true || (af.getD j []).contains i || (match os[j]? with|some oj=>Be os oi oj|none=>true)
theorem Jc{os:List O}{af:List (List Nat)}{done:List Bool}{i j:Nat}(h:BA os af done i=true):BA os af (done.set j true) i=true:=by
 unfold BA at *;split at h
 ·cases h
 ·rename_i oi hoi;try simp only[hoi]
  rw[Aad]at *;intro k hk;have:=h k hk;simp only[Aaq]at this ⊢;rcases this with((h1|h1)|h1)|h1
  ·exact .inl (.inl (.inl h1))
  ·by_cases hkj:j=k
   ·subst hkj;refine .inl (.inl (.inr ?_));by_cases hl:j<done.length
    ·simp[Aaa,Aae hl]
    ·simp[Aaa,Aaf (show(done.set j true).length≤j by simpa using Nat.not_lt.1 hl)]
   ·exact .inl (.inl (.inr (by rw[kU true hkj];exact h1)))
  ·exact .inl (.inr h1)
  ·exact .inr h1
def sq(af:List (List Nat))(done:List Bool):Prop:=∀k,done.getD k false=true→∀e∈af.getD k [],done.getD e false=true
theorem xD(af:List (List Nat))(n:Nat):sq af (List.replicate n false):=by
 intro k hk;simp only[Aaa,Aag]at hk;split at hk<;>simp at hk
theorem vR{D:List Bool}:∀{l:List Nat} {S:List Bool},(∀e,S.getD e false=true→D.getD e false=true)→(∀e∈l,D.getD e false=true)→∀e,(l.foldl (fun S e=>S.set e true) S).getD e false=true→D.getD e false=true
 | [],S,h1,_,e,h=>h1 e h
 | a::l,S,h1,h2,e,h=>by
  refine vR (l:=l) (S:=S.set a true) (fun x hx=>?_) (fun x hx=>h2 x (List.mem_cons_of_mem _ hx)) e h;by_cases hax:a=x
  ·subst hax;exact h2 a (by simp)
  ·rw[kU false hax]at hx;exact h1 x hx
theorem xz{af:List (List Nat)}{D:List Bool}(hc:sq af D):∀{n:Nat} {S:List Bool},(∀e,S.getD e false=true→D.getD e false=true)→∀e,(ue af n S).getD e false=true→D.getD e false=true
 | 0,S,h1,e,h=>h1 e h
 | n+1,S,h1,e,h=>by
  simp only[ue]at h;refine xz hc (n:=n) (fun x hx=>?_) e h;split at hx
  ·rename_i hn;exact vR h1 (hc n (h1 n hn)) x hx
  ·exact h1 x hx
theorem jV{af:List (List Nat)}{done:List Bool}{j:Nat}(hc:sq af done)(hj:∀e∈af.getD j [],done.getD e false=true):sq af (done.set j true):=by
 intro k hk e he;by_cases h:j=k
 ·subst h;exact rI (hj e he)
 ·rw[kU false h]at hk;exact rI (hc k hk e he)
theorem JK{os:List O}{af:List (List Nat)}{done:List Bool}{i j:Nat}(hp:xA os i=false)(hc:sq af done)(hj:∀e∈af.getD j [],done.getD e false=true)(hi:done.getD i true=false):¬xt os af (done.set i true) j=true:=by
 intro h;have hil:i<done.length:=by
  rcases Aah i done.length with h'|h'
  ·exact h'
  ·simp[Aaa,Aaf h']at hi
 unfold xt at h;have h:=Aad.1 h i (by simpa using hil);have e1:(done.set i true).getD i false=true:=by simp[Aaa,Aae hil]
 simp only[e1,hp,Aay,Aam]at h;have h2:=xz hc (vR (fun e he=>by
  simp only[Aaa,Aag]at he;split at he<;>simp at he) hj) i h
 simp[Aaa,Aac hil]at h2 hi;rw[h2]at hi;cases hi
theorem Je{os:List O}{af:List (List Nat)}{done:List Bool}{i j:Nat}(h:xt os af (done.set i true) j=true):xt os af done j=true:=by
 unfold xt at *;rw[Aad]at *;intro q hq;have:=h q (by simpa using hq);by_cases hiq:i=q
 ·subst hiq;have hil:i<done.length:=by simpa using hq
  have e1:(done.set i true).getD i false=true:=by simp[Aaa,Aae hil]
  simp only[e1,Aay,Aam,Aar]at this;cases hd:done.getD i false
  ·simp
  ·simpa using this
 ·rw[kU false hiq,Aar]at this;exact this
theorem xH{gl:Gl}{os:List O}{af:List (List Nat)}{K:St→Prop}{i:Nat}{oi:O}{v:AV}(hi:os[i]? = some oi)(hqi:quiet oi.op=true):
 ∀(fuel:Nat) (done:List Bool) (s:St),sq af done→BA os af done i=true→i∈gH os af done→QV Γ gl os oi v s→xE P Γ gl os af K fuel (done.set i true) (s.put oi.dst v)→
  xE P Γ gl os af K (fuel+1) done s:=by
 intro fuel
 induction fuel with
 | zero=>
  intro done s hc hf hr hv H;refine⟨fun h=>(by rw[h]at hr;cases hr),fun j hj=>?_⟩;by_cases hji:j=i
  ·subst hji;exact hv.Bo hi ⟨.inr (.inl (by rw[put_eq];exact Mem.env _ _)),H⟩
  ·have:=vl hj hji;rw[H.1]at this;cases this
 | succ fuel ih=>
  intro done s hc hf hr hv H;refine⟨fun h=>(by rw[h]at hr;cases hr),fun j hj=>?_⟩;by_cases hji:j=i
  ·subst hji;exact hv.Bo hi ⟨.inr (.inl (by rw[put_eq];exact Mem.env _ _)),H⟩
  ·have h1:=H.2 j (vl hj hji);obtain⟨hjl,hjun,hall⟩:=gA.1 hj;have hoj:os[j]? = some os[j]:=Aac hjl;have hap:Be os oi os[j]=true:=by
    unfold BA at hf;simp only[hi]at hf;have:=Aad.1 hf j (Aai.2 hjl);simp only[hoj,Aaq,beq_iff_eq,hji,hjun,Aav,false_or,or_false]at this;rcases this with h|h
    ·have h0:=hall i (by simpa using h);have h2:=(gA.1 hr).2.1;rcases Aah i done.length with h'|h'
     ·simp[Aaa,Aac h']at h0 h2;rw[h0]at h2;cases h2
     ·simp[Aaa,Aaf h']at h0
    ·exact h
   have hiu:=(gA.1 hr).2.1;have hia:=(gA.1 hr).2.2;have hil:i<done.length:=by
    rcases Aah i done.length with h'|h'
    ·exact h'
    ·simp[Aaa,Aaf h']at hiu
   have hif:done.getD i false=false:=by simpa[Aaa,Aac hil]using hiu
   have areg:∀q r,yR os q=some r→IF os af q r=true→(∀e∈af.getD q [],done.getD e false=true)→(s.put oi.dst v).env.getD r .any=s.env.getD r .any:=by
    intro q r h1 h2 h3;rw[put_eq];simp only[Aaa];rw[D8];rintro x hx rfl;have hilo:i<os.length:=aL hi;have:=Aad.1 h2 i (Aai.2 hilo);simp only[hi,hx,bne_self_eq_false,Aam]at this;have:=h3 i (by simpa using this);rw[hif]at this;cases this
   have h2:=Nr hoj hap hv (fun s' h=>by
    cases hp:xA os i with
    | true=>exact .inl (.inl (by simpa[xA,hi,hqi]using hp))
    | false=>
     rcases h.1.resolve_left (JK (i:=i) (j:=j) hp hc hall hiu)with h|k3
     ·exact .inl (.inr h)
     ·have e1:(done.set i true).getD i false=true:=by simp[Aaa,Aae hil]
      obtain⟨r,r1,r2,r3⟩:=k3 i (by simpa using hil) e1 (by
       cases hl:Ds os af (done.set i true).length j i
       ·rfl
       ·exfalso;simp only[Ds,hp,Aam]at hl;have h2:=xz hc (vR (fun e he=>by
         simp only[Aaa,Aag]at he;split at he<;>simp at he) hall) i hl
        rw[hif]at h2;cases h2)
      rw[areg i r r1 r2 hia]at r3;have hop:∃n b,oi.op=.load n b (.t r):=by
       unfold yR at r1;rw[hi]at r1;split at r1
       ·rename_i x1 x2 n b r' hx;injection hx with hx;subst hx
        injection r1 with r1;subst r1
        exact⟨n,b,rfl⟩
       ·cases r1
      obtain⟨n,b,hop⟩:=hop;rw[put_eq]at r3;exact .inr ⟨n,b,r,hop,r3⟩) h1
   refine kI (fun s' h3=>⟨h3.2.1.imp Je (fun m=>m.imp (fun m=>by rw[put_eq,put_eq]at m;exact⟨m.1,m.2⟩) (fun k3 q hq hdq hlq=>by
    have hqi:i≠q:=fun e=>by subst e;rw[hif]at hdq;cases hdq
    obtain⟨r,r1,r2,r3⟩:=k3 q (by simpa using hq) (by rw[kU false hqi];exact hdq) (by rw[Aar];exact hlq);exact⟨r,r1,r2,by rw[areg q r r1 r2 (hc q hdq)]at r3;rw[put_eq,put_eq]at r3;exact r3⟩)),ih _ s' (jV hc hall) (Jc hf) (vl hr (Ne.symm hji)) h3.1 ?_⟩) h2
   rw[Aax _ _ hji];exact h3.2.2
theorem Ba{ops:Array Oper}{os:List O}(hlen:os.length=ops.size){done:List Bool}(listed:Array Bool)(hd:listed.toList=done):
 Region.ready .any ops listed=gH os (ops.toList.map fun o=>o.after.toList.filterMap fun e=>if Region.binds .any e then some e.on else none) done:=by
 unfold Region.ready gH;rw[hlen];refine List.filter_congr fun i hi=>?_;subst hd;have hl:i<ops.size:=Aai.1 hi;have:∀(j:Nat) (d:Bool),listed.getD j d=listed.toList.getD j d:=fun j d=>by simp[Array.getD_eq_getD_getElem?,Aaa]
 simp only[this]
 congr 1
 simp only[Aaa,List.getElem?_map,Array.getElem?_toList,Array.getElem?_eq_getElem hl,Option.map_some,Option.getD_some];rw[←Array.all_toList,Bool.eq_iff_iff,Aad,Aad];constructor
 ·intro h x hx;obtain⟨e,he,hx⟩:=Aaw.1 hx;split at hx
  ·rename_i hb;injection hx with hx
   subst hx;have:=h e he;simpa[hb]using this
  ·cases hx
 ·intro h e he;by_cases hb:Region.binds .any e=true
  ·have:=h e.on (Aaw.2 ⟨e,he,by rw[if_pos hb]⟩);simpa[hb]using this
  ·simp[hb]
theorem Jy(tab:iO P Θ){ops:Array Oper}{os:List O}(hos:ops.toList.mapM (JR Θ)=some os)(gl:Gl){Q:Exit→Act→World→Prop}{K:St→Prop}{K':Act→World→Prop}
 {i:Nat} (hil:i<os.length) {s:St} {ρ₀ ls₀ h₀ w₀} (hK:∀s' ρ ls a w,ua ρ₀ ls₀ h₀ w₀ ρ ls s'.heap w→Rel Γ ρ ls s' a w→K s'→K' a w)
 {ρ ls a w} (ev:ua ρ₀ ls₀ h₀ w₀ ρ ls s.heap w) (rel:Rel Γ ρ ls s a w) (h:Bo P Γ gl os i K s):wpOp P ops Q i K' a w:=by
 obtain⟨hlen,cF⟩:=pJ hos;have hop:i<ops.toList.length:=by omega
 obtain⟨o',ho1,ho2⟩:=cF i _ (Aac hop);have hoe:o'=os[i]:=by rw[Aac hil]at ho1;exact(Option.some.inj ho1).symm
 subst hoe;have hopi:ops[i]? = some ops.toList[i]:=by rw[←Array.getElem?_toList,Aac hop]
 generalize hoo:ops.toList[i]=o at ho2 hopi;have htr:Tl Θ o.op=some os[i].op∧os[i].dst=o.dst∧os[i].gd=o.guard:=by
  unfold JR at ho2;cases hI:Tl Θ o.op with
  | none=>simp[hI]at ho2
  | some x=>simp[hI]at ho2;rw[←ho2];simp
 obtain⟨ht,hd,hg⟩:=htr;unfold Bo at h;simp only[Aac hil]at h;unfold wpOp;simp only[hopi];have hguard:∀t,guardOf os s os[i].gd=some t→Region.wanted o (yielded ops a.tmps)=t:=by
  intro t hgd;rw[hg]at hgd;unfold guardOf at hgd;unfold Region.wanted;cases hog:o.guard with
  | none=>simp[hog]at hgd ⊢;exact hgd
  | some jw=>
   obtain⟨j,want⟩:=jw;simp only[hog]at hgd ⊢;have hdst:(os[j]?).bind (·.dst)=(ops[j]?).bind (·.dst):=by
    cases hoj:os[j]? with
    | none=>
     have:ops.toList.length≤j:=by
      rcases Aah j ops.toList.length with h|h
      ·rw[Aac (by omega)]at hoj;cases hoj
      ·exact h
     rw[Array.getElem?_eq_none (by simpa using this)];rfl
    | some oj=>
     have hj:=aL hoj;obtain⟨o2,q1,q2⟩:=cF j _ (Aac (show j<ops.toList.length by omega));rw[hoj]at q1;injection q1 with q1
     subst q1;have:ops[j]? = some ops.toList[j]:=by rw[←Array.getElem?_toList,Aac]
     rw[this];unfold JR at q2;rw[Aab]at q2;obtain⟨x,_,q3⟩:=q2;rw[←q3];rfl
   rw[hdst]at hgd;unfold yielded;cases hb:(ops[j]?).bind (·.dst)with
   | none=>rw[hb]at hgd;simp at hgd;simp[hgd]
   | some d=>
    simp only[hb,Aaj]at hgd ⊢;cases hv:s.env[d]? with
    | none=>
     have:a.tmps[d]? = none:=by
      rcases Aah d s.env.length with h|h
      ·rw[Aac h]at hv;cases hv
      ·exact Array.getElem?_eq_none (by rw[←rel.size];exact h)
     simp[hv]at hgd;simp[this,hgd]
    | some x=>
     have hr:=rel.env d x hv;have hlt:d<a.tmps.size:=by rw[←rel.size];exact aL hv
     have hta:a.tmps[d]? = some (a.tmps.getD d undef):=by simp[hlt]
     rw[hta];generalize a.tmps.getD d undef=u at hr;cases hr<;>simp[hv]at hgd<;>(try subst hgd)<;>simp
 cases hgd:guardOf os s os[i].gd with
 | none=>simp[hgd]at h
 | some t=>
  rw[hguard t hgd];simp only[hgd]at h;obtain⟨hT,hF⟩:=h;cases t with
  | false=>
   simp only[Aav,if_false];have hrel:=v7 rel rfl rel.mem (.refl _ _ _ _) (mr (ρ:=ρ) (ls:=ls)) os[i].dst;rw[←hd];exact hK _ ρ ls _ w (by
    have:(s.put os[i].dst (.tup [])).heap=s.heap:=by cases os[i].dst<;>rfl
    rw[this];exact ev) hrel (hF rfl)
  | true=>
   simp only[if_true];refine .inl ?_;have hs:=Bv tab ht rel (sJ gl os[i]);have hT:=hT rfl;unfold Oper.wp;cases hst:step Γ (sJ gl os[i]) s os[i].op with
   | stuck=>simp[hst]at hT
   | val v s'=>
    rw[hst]at hs;simp only[hst]at hT;obtain⟨he,nx,cv,w',ρ',ls',hrun,hnx,hrv,hmem,hev⟩:=hs;rw[hrun];have hrel:=v7 rel he hmem hev hrv os[i].dst;have hnext:=hK _ ρ' ls' (a.put o.dst cv) w' (by
     have:(s'.put os[i].dst v).heap=s'.heap:=by cases os[i].dst<;>rfl
     rw[this];exact ev.trans hev) (by rw[←hd];exact hrel) hT
    rcases hnx with rfl|⟨rfl,rfl⟩
    ·exact hnext
    ·exact hnext
   | call f args=>
    rw[hst]at hs;simp only[hst]at hT;obtain⟨cargs,hrun,hra⟩:=hs;obtain⟨hcal,hcalls⟩:=hT ρ ls w cargs rel.mem rel.glob hra;rw[hrun,yG hcal];simp only[Oper.upon];refine hcalls.mono ?_;rintro e w' ⟨cv,v,s',ρ',ls',rfl,he,hrv,hmem,hev,hk⟩;have hrel:=v7 rel he hmem hev hrv os[i].dst;exact hK _ ρ' ls' (a.put o.dst cv) w' (by
     have:(s'.put os[i].dst v).heap=s'.heap:=by cases os[i].dst<;>rfl
     rw[this];exact ev.trans hev) (by rw[←hd];exact hrel) hk
def WV(ops:Array Oper):List (List Nat):=ops.toList.map fun o=>o.after.toList.filterMap fun e=>if Region.binds .any e then some e.on else none
theorem EC(tab:iO P Θ){ops:Array Oper}{os:List O}(hos:ops.toList.mapM (JR Θ)=some os)(gl:Gl){Q:AE→St→Prop}{ρ₀ ls₀ h₀ w₀}:
 ∀(fuel:Nat) (listed:Array Bool) (done:List Bool) (s:St),listed.toList=done→xE P Γ gl os (WV ops) (Q .normal) fuel done s→∀ρ ls a w,ua ρ₀ ls₀ h₀ w₀ ρ ls s.heap w→Rel Γ ρ ls s a w→
  wpAny P .any ops (Sat Γ Q ρ₀ ls₀ h₀ w₀) fuel listed a w:=by
 have hlen:os.length=ops.size:=by have:=(pJ hos).1;simpa using this
 intro fuel
 induction fuel with
 | zero=>
  intro listed done s hd h ρ ls a w ev rel;exact⟨by rw[Ba hlen listed hd];exact h.1,s,ρ,ls,rel,ev,h.2⟩
 | succ fuel ih=>
  intro listed done s hd h ρ ls a w ev rel;refine⟨fun hr=>⟨s,ρ,ls,rel,ev,h.1 (by rw[Ba hlen listed hd]at hr;exact hr)⟩,fun i hi=>?_⟩;rw[Ba hlen listed hd]at hi;refine Jy tab hos gl (gA.1 hi).1 ?_ ev rel (h.2 i hi);intro s' ρ' ls' a' w' ev' rel' hk;exact ih _ _ s' (by rw[←hd];simp) hk.2 ρ' ls' a' w' ev' rel'
theorem D9(tab:iO P Θ)(hm:P.follows .mixedOrders=true)(gl:Gl){os:List O}{af:List (List Nat)}{Q:AE→St→Prop}{s:St}
 (h:xE P Γ gl os af (Q .normal) os.length (List.replicate os.length false) s):TC P Θ Γ (.regD os af) Q s:=by
 intro code hc;cases code with
 | region id ops draw=>
  cases draw with
  | false=>
   simp only[sN,Aab]at hc;obtain⟨_,_,h⟩:=hc;cases h
  | true=>
   simp only[sN,Aab]at hc;obtain⟨os',hos,hc⟩:=hc;injection hc with h1 h2
   subst h1;have h2:WV ops=af:=h2;subst h2;have hlen:os'.length=ops.size:=by have:=(pJ hos).1;simpa using this
   intro ρ₀ ls₀ h₀ w₀ ρ ls a w ev rel;refine wp_region_any hm (EC tab hos gl ops.size _ (List.replicate os'.length false) s (by simp[hlen]) (by rw[←hlen];exact h) ρ ls a _ ?_ ?_)
   ·exact ev.trans (.Ed rfl rfl rfl)
   ·exact⟨rel.defers,rel.size,rel.env,rel.mem.Ed rfl,rel.glob⟩
 | seq x y=>
  simp only[sN]at hc;obtain⟨_,_,hc⟩:=qd hc;rw[Aab]at hc;obtain⟨_,_,h⟩:=hc;cases h
 | cond x y z=>
  simp only[sN]at hc;obtain⟨_,_,hc⟩:=qd hc;rw[Aab]at hc;obtain⟨_,_,h⟩:=hc;cases h
 | block id x=>
  simp only[sN,Aab]at hc;obtain⟨_,_,h⟩:=hc;cases h
 | loop x=>
  simp only[sN,Aab]at hc;obtain⟨_,_,h⟩:=hc;cases h
 | _=>simp[sN]at hc
end
end Go.AM
namespace Go.AM
inductive D where
 | done
 | q (i:Nat) (d:D)
 | all (ds:List (Nat×D))
 | st (i:Nat) (rs:List Nat) (d:D)
 | mix (ds:List (Nat×Option (List Nat)×D))
 deriving Inhabited
def quietAt(os:List O)(i:Nat):Bool:=match os[i]? with|some o=>quiet o.op|none=>false
def G6(os:List O)(af:List (List Nat))(done:List Bool)(i:Nat):Bool:=
 (List.range done.length).all fun q=>!(done.getD q false) || BC os q || (ue af i ((af.getD i []).foldl (fun S e=>S.set e true) (List.replicate done.length false))).getD q false
def GW(os:List O)(af:List (List Nat))(n i q:Nat):Bool:=
 BC os q || (ue af i ((af.getD i []).foldl (fun S e=>S.set e true) (List.replicate n false))).getD q false
theorem C3{os:List O}{q:Nat}(h:BC os q=true):xA os q=true:=by
 unfold BC at h;unfold xA;split at h
 ·rename_i o ho;simp[h]
 ·cases h
theorem YV{os:List O}{af:List (List Nat)}{done:List Bool}{i:Nat}(h:G6 os af done i=true):xt os af done i=true:=by
 unfold G6 at h;unfold xt;rw[Aad]at *;intro q hq;have:=h q hq;simp only[Aaq]at this ⊢;exact this.imp (fun h=>h.imp id C3) id
theorem MA{os:List O}{af:List (List Nat)}{n i q:Nat}(h:Ds os af n i q=false):GW os af n i q=false:=by
 unfold Ds at h;unfold GW;rw[Bool.or_eq_false_iff]at *;refine⟨?_,h.2⟩;cases hp:BC os q
 ·rfl
 ·rw[C3 hp]at h;cases h.1
def isApp(os:List O)(i:Nat):Bool:=match os[i]? with|some ⟨_,_,.app _ _ _ _ _ _⟩=>true|some ⟨_,_,.store _ _ _⟩=>true|some ⟨_,_,.appz _ _ _ _ _⟩=>true|some ⟨_,_,.clr _ _ _⟩=>true|_=>false
def DM(os:List O)(af:List (List Nat))(done:List Bool)(i:Nat):Option (List Nat):=
 (((List.range done.length).filter fun q=>done.getD q false && !(GW os af done.length i q)).mapM fun q=>match yR os q with|some r=>if IF os af q r=true then some r else none|none=>none)
def yS(os:List O)(af:List (List Nat))(done:List Bool)(i:Nat):Option (List Nat):=
 if isApp os i=true then (((List.range done.length).filter fun q=>done.getD q false && !(Ds os af done.length i q)).mapM fun q=>match yR os q with|some r=>if IF os af q r=true then some r else none|none=>none)else none
def Nn(os:List O)(i:Nat):Bool:=match os[i]? with|some ⟨_,_,.store _ (.t _) _⟩=>true|some ⟨_,_,.app _ _ _ _ _ _⟩=>true|some ⟨_,_,.call _ _⟩=>true|_=>false
def sched(os:List O)(af:List (List Nat)):Nat→List Bool→Option D
 | 0,done=>if (gH os af done).isEmpty=true then some .done else none
 | fuel+1,done=>
  match (gH os af done).find? (fun i=>quietAt os i && BA os af done i)with
  | some i=>(sched os af fuel (done.set i true)).map (.q i)
  | none=>if (gH os af done).isEmpty=true then some .done else match (gH os af done).find? (fun i=>gH os af done == [i] && G6 os af done i)with
   | some i=>(sched os af fuel (done.set i true)).map (.q i)
   | none=>match (gH os af done).find? (fun i=>gH os af done == [i] && Nn os i && (DM os af done i).isSome)with
   | some i=>(sched os af fuel (done.set i true)).map (.st i ((DM os af done i).getD []))
   | none=>if ((gH os af done).any fun i=>(yS os af done i).isSome)=true then
    ((gH os af done).mapM fun i=>(sched os af fuel (done.set i true)).map fun d=>(i,yS os af done i,d)).map .mix
    else ((gH os af done).mapM fun i=>(sched os af fuel (done.set i true)).map fun d=>(i,d)).map .all
section
variable (P:Program) (Θ:ub) (Γ:bG)
def B2(f:Nat→D→Prop):List (Nat×D)→Prop
 | []=>True
 | (i,d)::r=>f i d∧B2 f r
def yX(f:Nat→Option (List Nat)→D→Prop):List (Nat×Option (List Nat)×D)→Prop
 | []=>True
 | (i,b,d)::r=>f i b d∧yX f r
def fy(gl:Gl)(os:List O)(K:St→Prop):Nat→D→St→Prop
 | 0,.done,s=>K s
 | _+1,.done,s=>K s
 | n+1,.q i d,s=>Bo P Γ gl os i (fy gl os K n d) s
 | n+1,.st i rs d,s=>Bo P Γ gl os i (fun s'=>jB rs s s'∧fy gl os K n d s') s
 | n+1,.all ds,s=>B2 (fun i d=>Bo P Γ gl os i (fun s'=>Mem s s'∧fy gl os K n d s') s) ds
 | n+1,.mix ds,s=>yX (fun i b d=>Bo P Γ gl os i (fun s'=>(match b with|some rs=>jB rs s s'|none=>Mem s s')∧fy gl os K n d s') s) ds
 | 0,_,_=>False
def aw(gl:Gl):C→(AE→St→Prop)→St→Prop
 | .skip,Q,s=>Q .normal s
 | .reg os,Q,s=>jS P Γ gl os os (Q .normal) s
 | .regD os af,Q,s=>match sched os af os.length (List.replicate os.length false)with
  | some d=>fy P Γ gl os (Q .normal) os.length d s
  | none=>False
 | .seq a b,Q,s=>aw gl a (nt (aw gl b Q) Q) s
 | .cond c a b,Q,s=>match s.eval Γ c with|.bool t=>br t (aw gl a Q s) (aw gl b Q s)|_=>False
 | .block id c,Q,s=>aw gl c (pT id Q) s
 | .loop c,Q,s=>TC P Θ Γ (.loop c) Q s
 | .exit id,Q,s=>Q (.exit id) s
 | .ret,Q,s=>Q .ret s
end
section
variable {P:Program} {Θ:ub} {Γ:bG}
theorem pt{os:List O}{af:List (List Nat)}{done:List Bool}{p:Nat→Bool}{i:Nat}(h:(gH os af done).find? p=some i):i∈gH os af done∧p i=true:=
 ⟨List.mem_of_find?_eq_some h,List.find?_some h⟩
theorem Ir{gl:Gl}{os:List O}{i:Nat}{K:St→Prop}{s:St}(hq:quietAt os i=true)(h:Bo P Γ gl os i K s):∃o v,os[i]? = some o∧QV Γ gl os o v s∧K (s.put o.dst v):=by
 unfold Bo at h;unfold quietAt at hq;cases ho:os[i]? with
 | none=>simp[ho]at hq
 | some o=>
  simp only[ho]at h hq;refine⟨o,?_⟩;cases hg:guardOf os s o.gd with
  | none=>simp[hg]at h
  | some t=>
   simp only[hg]at h;cases t with
   | true=>
    have h:=h.1 rfl;cases hs:step Γ (sJ gl o) s o.op with
    | val v s'=>
     rw[hs]at h;have:=(Bn hq hs).1;subst this;exact⟨v,rfl,.inl ⟨hg,hq,hs⟩,h⟩
    | call f args=>
     exfalso;cases hop:o.op<;>rw[hop]at hq hs<;>(try (simp only[quiet]at hq;cases hq))<;>simp only[step]at hs;all_goals (first|(cases hs;done)|skip)
     all_goals (try (split at hs))
     all_goals (first|(cases hs;done)|skip)
     all_goals (unfold AR.nD at hs;split at hs<;>cases hs)
    | stuck=>rw[hs]at h;exact h.elim
   | false=>exact⟨.tup [],rfl,.inr ⟨hg,rfl⟩,h.2 rfl⟩
theorem mapM_mem{α β:Type}{f:α→Option β}:∀{l:List α} {r:List β},l.mapM f=some r→∀x∈l,∃y∈r,f x=some y
 | [],_,_,x,hx=>by simp at hx
 | a::l,r,h,x,hx=>by
  rw[List.mapM_cons]at h;cases ha:f a with
  | none=>simp[ha]at h
  | some b=>
   cases hl:l.mapM f with
   | none=>simp[ha,hl]at h
   | some bs=>
    simp[ha,hl]at h;subst h;rcases Aau.1 hx with rfl|hx
    ·exact⟨b,by simp,ha⟩
    ·obtain⟨y,hy,hf⟩:=mapM_mem hl x hx;exact⟨y,by simp[hy],hf⟩
theorem zB{f:Nat→D→Prop}:∀{l:List (Nat×D)},B2 f l→∀i d,(i,d)∈l→f i d
 | (j,e)::r,h,i,d,hm=>by
  rcases Aau.1 hm with h1|h1
  ·injection h1 with h1 h2;subst h1;subst h2;exact h.1
  ·exact zB h.2 i d h1
theorem zJ{f:Nat→Option (List Nat)→D→Prop}:∀{l:List (Nat×Option (List Nat)×D)},yX f l→∀i b d,(i,b,d)∈l→f i b d
 | (j,c,e)::r,h,i,b,d,hm=>by
  rcases Aau.1 hm with h1|h1
  ·simp only[Prod.mk.injEq]at h1;obtain⟨rfl,rfl,rfl⟩:=h1;exact h.1
  ·exact zJ h.2 i b d h1
theorem Hw{os:List O}{af:List (List Nat)}{done:List Bool}{i:Nat}{rs:List Nat}{s s':St}(h:DM os af done i=some rs)(k:jB rs s s'):L6 os af done i s s':=by
 intro q hq hd hl;obtain⟨r,hr,hf⟩:=mapM_mem h q (Aap.2 ⟨Aai.2 hq,by rw[hd,MA hl];rfl⟩);split at hf
 ·rename_i r' ha;split at hf
  ·rename_i hs;injection hf with hf;subst hf
   exact⟨r',ha,hs,k r' hr⟩
  ·cases hf
 ·cases hf
theorem Fy{os:List O}{af:List (List Nat)}{done:List Bool}{i:Nat}{rs:List Nat}{s s':St}(h:yS os af done i=some rs)(k:jB rs s s'):L6 os af done i s s':=by
 unfold yS at h;split at h
 ·intro q hq hd hl;obtain⟨r,hr,hf⟩:=mapM_mem h q (Aap.2 ⟨Aai.2 hq,by rw[hd,hl];rfl⟩);split at hf
  ·rename_i r' ha;split at hf
   ·rename_i hs;injection hf with hf;subst hf
    exact⟨r',ha,hs,k r' hr⟩
   ·cases hf
  ·cases hf
 ·cases h
theorem B8{gl:Gl}{os:List O}{af:List (List Nat)}{K:St→Prop}:∀(fuel:Nat) (done:List Bool) (d:D) (s:St),sq af done→sched os af fuel done=some d→fy P Γ gl os K fuel d s→xE P Γ gl os af K fuel done s:=by
 intro fuel
 induction fuel with
 | zero=>
  intro done d s hc hs h;simp only[sched]at hs;split at hs
  ·rename_i he;injection hs with hs
   subst hs;exact⟨by simpa using he,h⟩
  ·cases hs
 | succ fuel ih=>
  intro done d s hc hs h;simp only[sched]at hs;split at hs
  ·rename_i i hf;obtain⟨hr,hp⟩:=pt hf;simp only[Aao]at hp;rw[Aab]at hs;obtain⟨d',hd,rfl⟩:=hs;simp only[fy]at h;obtain⟨o,v,ho,hv,hk⟩:=Ir hp.1 h;exact xH ho (by simpa[quietAt,ho]using hp.1) fuel done s hc hp.2 hr hv (ih _ d' _ (jV hc (gA.1 hr).2.2) hd hk)
  ·split at hs
   ·rename_i he;injection hs with hs
    subst hs;have he:gH os af done=[]:=by simpa using he
    exact⟨fun _=>h,by rw[he];simp⟩
   ·rename_i he;split at hs
    ·rename_i i hf;obtain⟨hr,hp⟩:=pt hf;simp only[Aao,beq_iff_eq]at hp;rw[Aab]at hs;obtain⟨d',hd,rfl⟩:=hs;simp only[fy]at h;refine⟨fun hn=>absurd (by simp[hn]) he,fun j hj=>?_⟩;have hji:j=i:=by rw[hp.1]at hj;simpa using hj
     subst hji;exact kI (fun s' hs=>⟨.inl (YV hp.2),ih _ _ s' (jV hc (gA.1 hr).2.2) hd hs⟩) h
    split at hs
    ·rename_i i hf;obtain⟨hr,hp⟩:=pt hf;simp only[Aao,beq_iff_eq]at hp;rw[Aab]at hs;obtain⟨d',hd,rfl⟩:=hs;simp only[fy]at h;refine⟨fun hn=>absurd (by simp[hn]) he,fun j hj=>?_⟩;have hji:j=i:=by rw[hp.1.1]at hj;simpa using hj
     subst hji;obtain⟨rs,hrs⟩:=Option.isSome_iff_exists.1 hp.2;rw[hrs]at h;exact kI (fun s' hs=>⟨.inr (.inr (Hw hrs hs.1)),ih _ _ s' (jV hc (gA.1 hr).2.2) hd hs.2⟩) h
    split at hs
    ·rw[Aab]at hs;obtain⟨ds,hd,rfl⟩:=hs;simp only[fy]at h;refine⟨fun hn=>absurd (by simp[hn]) he,fun i hi=>?_⟩;obtain⟨⟨j,b,d⟩,hm,hf⟩:=mapM_mem hd i hi;rw[Aab]at hf;obtain⟨d',h1,h2⟩:=hf;simp only[Prod.mk.injEq]at h2;obtain⟨h2,h3,h4⟩:=h2;subst h2;subst h4;refine kI (fun s' hs=>⟨?_,ih _ _ s' (jV hc (gA.1 hi).2.2) h1 hs.2⟩) (zJ h _ _ _ hm);cases b with
     | some rs=>exact .inr (.inr (Fy h3 hs.1))
     | none=>exact .inr (.inl hs.1)
    rw[Aab]at hs;obtain⟨ds,hd,rfl⟩:=hs;simp only[fy]at h;refine⟨fun hn=>absurd (by simp[hn]) he,fun i hi=>?_⟩;obtain⟨⟨j,d⟩,hm,hf⟩:=mapM_mem hd i hi;rw[Aab]at hf;obtain⟨d',h1,h2⟩:=hf;injection h2 with h2 h3
    subst h2;subst h3;exact kI (fun s' hs=>⟨.inr (.inl hs.1),ih _ _ s' (jV hc (gA.1 hi).2.2) h1 hs.2⟩) (zB h _ _ hm)
theorem p8{gl:Gl}{all:List O}:∀(os:List O) {K K':St→Prop} (s:St),(∀s,K s→K' s)→jS P Γ gl all os K s→jS P Γ gl all os K' s
 | [],_,_,s,hk,h=>hk s h
 | o::r,_,_,s,hk,h=>by
  simp only[jS]at h ⊢;split
  ·rename_i hg;simp[hg]at h
  ·rename_i t hg;simp only[hg]at h;refine⟨fun ht=>?_,fun ht=>p8 r _ hk (h.2 ht)⟩;have h:=h.1 ht;split
   ·rename_i hs;rw[hs]at h;exact p8 r _ hk h
   ·rename_i hs;rw[hs]at h;exact h.mono fun _ s' h=>p8 r _ hk h
   ·rename_i hs;rw[hs]at h;exact h
theorem tu{gl:Gl}:∀(c:C) {Q Q':AE→St→Prop} (s:St),(∀e s,Q e s→Q' e s)→yl P Θ Γ gl c Q s→yl P Θ Γ gl c Q' s:=by
 intro c
 induction c with
 | skip=>exact fun s hq h=>hq _ s h
 | reg os=>exact fun s hq h=>p8 os s (hq _) h
 | regD os af=>exact fun s hq h=>h.mono hq
 | seq a b iha ihb=>exact fun s hq h=>iha s (fun e s he=>by cases e<;>simp only[nt]at he ⊢<;>first|exact ihb s hq he|exact hq _ _ he) h
 | cond c a b iha ihb=>
  intro Q Q' s hq h;simp only[yl]at h ⊢;split at h
  ·exact⟨fun ht=>iha s hq (h.1 ht),fun ht=>ihb s hq (h.2 ht)⟩
  ·exact h.elim
 | block id c ih=>exact fun s hq h=>ih s (fun e s he=>by cases e<;>simp only[pT]at he ⊢<;>(try split)<;>simp_all) h
 | loop c=>exact fun s hq h=>h.mono hq
 | exit id=>exact fun s hq h=>hq _ s h
 | ret=>exact fun s hq h=>hq _ s h
theorem aC(tab:iO P Θ)(hm:P.follows .mixedOrders=true)(gl:Gl):∀(c:C) (Q:AE→St→Prop) (s:St),aw P Θ Γ gl c Q s→TC P Θ Γ c Q s:=by
 suffices h:∀(c:C) (Q:AE→St→Prop) (s:St),aw P Θ Γ gl c Q s→yl P Θ Γ gl c Q s from fun c Q s ha=>TC.T3 tab gl (h c Q s ha)
 intro c
 induction c with
 | skip=>exact fun _ _ h=>h
 | reg os=>exact fun _ _ h=>h
 | regD os af=>
  intro Q s h;simp only[aw]at h;split at h
  ·rename_i d hd;exact D9 tab hm gl (B8 _ _ d s (xD _ _) hd h)
  ·exact h.elim
 | seq a b iha ihb=>
  intro Q s h;exact tu a s (fun e s he=>by cases e<;>simp only[nt]at he ⊢<;>first|exact ihb Q s he|exact he) (iha _ s h)
 | cond c a b iha ihb=>
  intro Q s h;simp only[aw,yl]at h ⊢;split at h
  ·rename_i t ht;simp only[ht];exact⟨fun ht=>iha Q s (h.1 ht),fun ht=>ihb Q s (h.2 ht)⟩
  ·exact h.elim
 | block id c ih=>exact fun Q s h=>ih _ s h
 | loop c=>exact fun _ _ h=>h
 | exit id=>exact fun _ _ h=>h
 | ret=>exact fun _ _ h=>h
end
end Go.AM
