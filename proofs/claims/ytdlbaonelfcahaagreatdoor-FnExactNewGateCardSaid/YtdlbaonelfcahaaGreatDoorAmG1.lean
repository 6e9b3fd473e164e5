import Derived.Test.YtdlbaonelfcahaaGreatDoorAmG0
set_option linter.unusedVariables false
set_option linter.unusedSimpArgs false
namespace Go.AM
theorem aK{α:Type}{l:List α}{i:Nat}{x:α}(h:l[i]? = some x):i<l.length:=by
  rcases Nat.lt_or_ge i l.length with h'|h'
  · exact h'
  · simp[List.getElem?_eq_none h']at h
theorem c6{α:Type}{l:Array α}{i:Nat}{x:α}(h:l[i]? = some x):i<l.size:=by
  rcases Nat.lt_or_ge i l.size with h'|h'
  · exact h'
  · simp[Array.getElem?_eq_none h']at h
theorem cell_of{w:World}{c o:Nat}{arr T fr}(h:w.heap[c]? = some (Obj.cells arr T fr)):w.cell? ⟨c,o,none⟩=arr[o]?:=by
  simp[World.cell?,h]
theorem addr_add(c o n:Nat):(Addr.add ⟨c,o,none⟩ n)=⟨c,o+n,none⟩:=by
  unfold Addr.add;split<;>simp_all
theorem zW{w:World}{c o:Nat}{arr T fr}(h:w.heap[c]? = some (Obj.cells arr T fr))(u:dS arr fr)(ho:o<arr.size):w.frozen? ⟨c,o,none⟩=false:=by
  obtain⟨lo,hi⟩:=fr
  simp only[World.frozen?,h]
  unfold dS at u
  simp at u ⊢
  omega
def dt(arr:Array Value)(o:Nat):List Value→Array Value
  | []=>arr
  | v::r=>dt (arr.setIfInBounds o v) (o+1) r
theorem de(arr:Array Value)(o:Nat)(vs:List Value):(dt arr o vs).size=arr.size:=by
  induction vs generalizing arr o with
  | nil=>rfl
  | cons v r ih=>simp[dt,ih]
theorem lQ(vs:List Value):∀(arr:Array Value) (o i:Nat),o+vs.length≤arr.size→
    (dt arr o vs)[i]? = if o≤i∧i<o+vs.length then vs[i-o]? else arr[i]?:=by
  induction vs with
  | nil=>intro arr o i h;simp[dt];omega
  | cons v r ih=>
    intro arr o i h
    simp only[List.length_cons]at h
    rw[dt,ih _ _ _ (by simp;omega)]
    by_cases h1:o=i
    · subst h1
      rw[if_neg (by omega),if_pos (by simp),Nat.sub_self,Array.getElem?_setIfInBounds_self_of_lt (by omega)]
      rfl
    · by_cases h2:o+1≤i∧i<o+1+r.length
      · rw[if_pos h2,if_pos (by simp;omega)]
        obtain⟨d,rfl⟩:∃d,i=o+1+d:=⟨i-o-1,by omega⟩
        rw[show o+1+d-o=d+1 from by omega,show o+1+d-(o+1)=d from by omega]
        simp
      · rw[if_neg h2,if_neg (by simp;omega)]
        rw[Array.getElem?_setIfInBounds_ne h1]
structure Ea (w:World) (c:Nat) (x:Obj) (w':World):Prop where
  sz:w'.heap.size=w.heap.size
  ne:∀(c':Nat),c'≠c→w'.heap[c']? = w.heap[c']?
  eq:w'.heap[c]? = some x
  os:w'.os=w.os
  out:w'.output=w.output
structure iK (w:World) (x:Obj) (w':World):Prop where
  sz:w'.heap.size=w.heap.size+1
  old:∀(c:Nat),c<w.heap.size→w'.heap[c]? = w.heap[c]?
  new:w'.heap[w.heap.size]? = some x
  os:w'.os=w.os
  out:w'.output=w.output
theorem iK.push(w:World)(x:Obj):iK w x { w with heap:=w.heap.push x }:=
  ⟨by simp,fun c h=>by simp[Array.getElem?_push,Nat.ne_of_lt h],by simp,rfl,rfl⟩
theorem vv{w:World}{c o:Nat}{arr T fr}(h:w.heap[c]? = some (Obj.cells arr T fr))(v:Value):
    Ea w c (Obj.cells (arr.setIfInBounds o v) T fr) (w.setCell ⟨c,o,none⟩ v):=by
  have hlt:=c6 h
  refine⟨by simp[World.setCell],fun c' hc=>?_,?_,rfl,rfl⟩
  · simp[World.setCell,Array.getElem?_modify,Ne.symm hc]
  · simp[World.setCell,Array.getElem?_modify,h]
theorem fB{P:Program}(c T:Nat)(fr:Nat×Nat):∀(vs:List Value) (o i:Nat) (w:World) (arr:Array Value),
    w.heap[c]? = some (Obj.cells arr T fr)→dS arr fr→o+i+vs.length≤arr.size→(∀v∈vs,v.oneCell'=true)→
    ∃w',(storeCells ⟨c,o,none⟩ vs i).run P w=.ok () w'∧Ea w c (Obj.cells (dt arr (o+i) vs) T fr) w':=by
  intro vs
  induction vs with
  | nil=>intro o i w arr h _ _ _;exact⟨w,by simp[storeCells],rfl,fun _ _=>rfl,h,rfl,rfl⟩
  | cons v r ih=>
    intro o i w arr h u hl hv
    simp only[List.length_cons]at hl
    have hs:=vv (o:=o+i) h v
    obtain⟨w',e,hb⟩:=ih o (i+1) (w.setCell ⟨c,o+i,none⟩ v) (arr.setIfInBounds (o+i) v) hs.eq (by unfold dS at *;simpa using u) (by simp;omega) (fun x hx=>hv x (by simp[hx]))
    refine⟨w',?_,?_⟩
    · have hst:(store (Addr.add ⟨c,o,none⟩ i) v).run P w=.ok () (w.setCell ⟨c,o+i,none⟩ v):=by
        rw[addr_add,run_store P w _ v .plain (hv v (by simp)),cell_of h]
        rw[Array.getElem?_eq_getElem (by omega)]
        simp[zW h u (show o+i<arr.size by omega)]
      simp only[storeCells,Sem.run_bind,hst,Result.andThen_ok,e]
    · refine⟨hb.sz.trans hs.sz,fun c' hc=>(hb.ne c' hc).trans (hs.ne c' hc),?_,hb.os.trans hs.os,hb.out.trans hs.out⟩
      rw[hb.eq,dt,show o+(i+1)=o+i+1 from by omega]
theorem hU{l:List AV}{off n:Nat}{cs:List AV}(h:sub l off n=some cs):off+n≤l.length∧cs.length=n∧∀j,j<n→cs[j]? = l[off+j]?:=by
  unfold sub at h
  split at h
  · rename_i hle
    injection h with h
    subst h
    refine⟨hle,by simp;omega,fun j hj=>?_⟩
    rw[List.getElem?_take,if_pos hj,List.getElem?_drop]
  · cases h
theorem gr{l cs:List AV}{off:Nat}(h:off+cs.length≤l.length):(over l off cs).length=l.length:=by
  simp[over];omega
theorem Bx{l cs:List AV}{off:Nat}(h:off+cs.length≤l.length)(i:Nat):
    (over l off cs)[i]? = if off≤i∧i<off+cs.length then cs[i-off]? else l[i]?:=by
  unfold over
  by_cases h1:i<off
  · rw[if_neg (by omega),List.append_assoc,List.getElem?_append_left (by simp;omega),List.getElem?_take,if_pos h1]
  · by_cases h2:i<off+cs.length
    · rw[if_pos (by omega),List.append_assoc,List.getElem?_append_right (by simp;omega)]
      simp only[List.length_take]
      rw[Nat.min_eq_left (by omega),List.getElem?_append_left (by omega)]
    · rw[if_neg (by omega),List.getElem?_append_right (by simp;omega)]
      simp only[List.length_append,List.length_take]
      rw[Nat.min_eq_left (by omega),List.getElem?_drop]
      congr 1;omega
theorem fk.over{ρ ls arr o l cs off}{vs:List Value}(h:fk ρ ls arr o l)(hle:off+cs.length≤l.length)(hsz:o+l.length≤arr.size)(hv:eB ρ ls cs vs):
    fk ρ ls (dt arr (o+off) vs) o (AM.over l off cs):=by
  intro i x hx
  rw[Bx hle]at hx
  rw[lQ vs arr (o+off) (o+i) (by have:=hv.1;omega)]
  split at hx
  · rename_i hi
    have hlt:=aK hx
    have hlen:=hv.1
    rw[if_pos (by omega),show o+i-(o+off)=i-off from by omega]
    have hy:=hv.2 _ x hx
    rw[List.getElem?_eq_getElem (by omega)]
    refine⟨_,rfl,?_⟩
    rw[List.getD_eq_getElem?_getD,List.getElem?_eq_getElem (by omega)]at hy
    exact hy
  · rename_i hi
    obtain⟨y,hy,r⟩:=h i x hx
    have hlen:=hv.1
    rw[if_neg (by omega)]
    exact⟨y,hy,r⟩
theorem RH.KT{ρ ls L h w w' i l c arr T fr arr' l'}(r:RH ρ ls L h w)(hi:L[i]? = some l)(hc:ls[i]? = some c)
    (b:Ea w c (Obj.cells arr' T fr) w') (hsz:arr'.size=arr.size) (u:dS arr fr) (hl':l'.length=arr'.size) (hlies:fk ρ ls arr' 0 l'):
    RH ρ ls (L.set i l') h w'∧gW ρ ls h w ρ ls h w':=by
  have hil:=aK hi
  constructor
  · refine⟨?_,?_,by simpa using r.len,r.nod,r.hh,r.hl,?_,r.iml,r.imh,?_⟩
    · intro b' g cs hb
      obtain⟨c',o,n,arr1,T1,fr1,e1,e2,e3,e4,e5,e6⟩:=r.hp b' g cs hb
      refine⟨c',o,n,arr1,T1,fr1,e1,?_,e3,e4,e5,e6⟩
      rw[b.ne c' (fun e=>r.hl _ _ _ _ _ _ i hb e1 (e▸hc))];exact e2
    · intro j cs hj
      by_cases hij:i=j
      · subst hij
        rw[List.getElem?_set_self hil]at hj
        injection hj with hj
        subst hj
        exact⟨c,arr',T,fr,hc,b.eq,by unfold dS at *;omega,hl'.symm,hlies⟩
      · rw[List.getElem?_set_ne hij]at hj
        obtain⟨c',arr1,T1,fr1,e1,e2,e3,e4,e5⟩:=r.lp j cs hj
        refine⟨c',arr1,T1,fr1,e1,?_,e3,e4,e5⟩
        rw[b.ne c' (fun e=>hij (r.nod i j c hc (e▸e1)))];exact e2
    · intro β c' arr1 hm
      obtain⟨T1,fr1,e⟩:=r.im β c' arr1 hm
      exact⟨T1,fr1,by rw[b.ne c' (fun e=>r.iml β c' arr1 i hm (e▸hc))];exact e⟩
    · intro b' g c' o n hm
      obtain⟨e1,e2⟩:=r.dom b' g c' o n hm
      exact⟨by rw[b.sz];exact e1,e2⟩
  · refine⟨.refl _,.refl _,by rw[b.sz];exact Nat.le_refl _,fun c' _ ht=>b.ne c' (fun e=>ht (.inl ⟨i,e▸hc⟩)),fun _ _ _ _ _ _ h m=>.inr ⟨_,_,_,_,h,m⟩,fun _ _ h=>.inr h,fun _ _ _ _ e=>e,Nat.le_refl _,b.os,b.out⟩
theorem RH.zI{ρ ls L h w w' b g l c o n arr T fr arr' l'}(r:RH ρ ls L h w)(hb:h[b]? = some (some (g,l)))(hc:ρ.m b g=some (c,o,n))
    (sb:Ea w c (Obj.cells arr' T fr) w') (hsz:arr'.size=arr.size) (hn:arr.size=n) (u:dS arr fr) (hl':o+l'.length≤n) (hlies:fk ρ [] arr' o l'):
    RH ρ ls L (h.set b (some (g,l'))) w'∧gW ρ ls h w ρ ls (h.set b (some (g,l'))) w':=by
  have hbl:=aK hb
  have look:∀{b' g' cs},(h.set b (some (g,l')))[b']? = some (some (g',cs))→∃cs',h[b']? = some (some (g',cs'))∧(b'≠b→cs'=cs)∧(b'=b→g'=g∧cs=l'):=by
    intro b' g' cs e
    by_cases hbb:b=b'
    · subst hbb
      rw[List.getElem?_set_self hbl]at e
      injection e with e
      injection e with e
      injection e with e1 e2
      subst e1 e2
      exact⟨l,hb,fun h=>absurd rfl h,fun _=>⟨rfl,rfl⟩⟩
    · rw[List.getElem?_set_ne hbb]at e
      exact⟨cs,e,fun _=>rfl,fun h=>absurd h.symm hbb⟩
  constructor
  · refine⟨?_,?_,r.len,r.nod,?_,?_,?_,r.iml,?_,?_⟩
    · intro b' g' cs hb'
      obtain⟨cs',e0,hne,heq⟩:=look hb'
      by_cases hbb:b'=b
      · obtain⟨rfl,rfl⟩:=heq hbb
        subst hbb
        exact⟨c,o,n,arr',T,fr,hc,sb.eq,by omega,by unfold dS at *;omega,hl',hlies⟩
      · obtain rfl:=hne hbb
        obtain⟨c',o',n',arr1,T1,fr1,e1,e2,e3,e4,e5,e6⟩:=r.hp b' g' cs' e0
        refine⟨c',o',n',arr1,T1,fr1,e1,?_,e3,e4,e5,e6⟩
        rw[sb.ne c' (fun e=>hbb (r.hh _ _ _ _ _ _ c' _ _ _ _ e0 hb e1 (by rw[e];exact hc)))];exact e2
    · intro j cs hj
      obtain⟨c',arr1,T1,fr1,e1,e2,e3,e4,e5⟩:=r.lp j cs hj
      refine⟨c',arr1,T1,fr1,e1,?_,e3,e4,e5⟩
      rw[sb.ne c' (fun e=>r.hl _ _ _ _ _ _ j hb hc (e▸e1))];exact e2
    · intro b1 g1 cs1 b2 g2 cs2 c' o1 n1 o2 n2 h1 h2 m1 m2
      obtain⟨_,e1,_⟩:=look h1
      obtain⟨_,e2,_⟩:=look h2
      exact r.hh _ _ _ _ _ _ _ _ _ _ _ e1 e2 m1 m2
    · intro b1 g1 cs1 c' o1 n1 i h1 m1
      obtain⟨_,e1,_⟩:=look h1
      exact r.hl _ _ _ _ _ _ i e1 m1
    · intro β c' arr1 hm
      obtain⟨T1,fr1,e⟩:=r.im β c' arr1 hm
      exact⟨T1,fr1,by rw[sb.ne c' (fun e=>r.imh β c' arr1 b g l o n hm hb (by rw[e];exact hc))];exact e⟩
    · intro β c' arr1 b1 g1 cs1 o1 n1 hm h1
      obtain⟨_,e1,_⟩:=look h1
      exact r.imh β c' arr1 b1 g1 _ o1 n1 hm e1
    · intro b' g' c' o' n' hm
      obtain⟨e1,e2,e3⟩:=r.dom b' g' c' o' n' hm
      refine⟨by rw[sb.sz];exact e1,by simpa using e2,fun g1 cs1 h1=>?_⟩
      obtain⟨cs2,e4,_,_⟩:=look h1
      exact e3 g1 cs2 e4
  · refine⟨.refl _,.refl _,by rw[sb.sz];exact Nat.le_refl _,fun c' _ ht=>sb.ne c' (fun e=>ht (.inr ⟨b,g,l,o,n,hb,by rw[e];exact hc⟩)),?_,fun _ _ h=>.inr h,fun _ _ _ _ e=>e,by simp,sb.os,sb.out⟩
    intro b' g' cs' c' o' n' h1 m1
    obtain⟨_,e1,_⟩:=look h1
    exact .inr ⟨g',_,o',n',e1,m1⟩
theorem RH.KF{ρ ls L h w w' arr T cs}(r:RH ρ ls L h w)(nb:iK w (Obj.cells arr T (0,0)) w')(hl:cs.length=arr.size)(hlies:fk ρ ls arr 0 cs):
    RH ρ (ls++[w.heap.size]) (L++[cs]) h w'∧gW ρ ls h w ρ (ls++[w.heap.size]) h w':=by
  have inl:∀{i c:Nat},ls[i]? = some c→c<w.heap.size:=fun{i c} e=>by
    have hi:=aK e
    rw[r.len]at hi
    obtain⟨c',arr1,T1,fr1,e1,e2,_⟩:=r.lp i _ (List.getElem?_eq_getElem hi)
    rw[e]at e1
    injection e1 with e1
    subst e1
    exact c6 e2
  have snoc:∀{i c:Nat},(ls++[w.heap.size])[i]? = some c→ls[i]? = some c∨(i=ls.length∧c=w.heap.size):=fun{i c} e=>by
    by_cases hi:i<ls.length
    · rw[List.getElem?_append_left hi]at e;exact .inl e
    · rw[List.getElem?_append_right (by omega)]at e
      have h0:i-ls.length=0:=by have:=aK e;simp at this;omega
      rw[h0]at e
      simp at e
      exact .inr ⟨by omega,e.symm⟩
  have mr:∀{c:Nat} {x:Obj},w.heap[c]? = some x→w'.heap[c]? = some x:=fun e=>by rw[nb.old _ (c6 e)];exact e
  constructor
  · refine⟨?_,?_,by simp[r.len],?_,r.hh,?_,?_,?_,r.imh,?_⟩
    · intro b g cs' hb
      obtain⟨c',o,n,arr1,T1,fr1,e1,e2,rest⟩:=r.hp b g cs' hb
      exact⟨c',o,n,arr1,T1,fr1,e1,mr e2,rest⟩
    · intro i cs' hi
      by_cases hlt:i<L.length
      · rw[List.getElem?_append_left hlt]at hi
        obtain⟨c',arr1,T1,fr1,e1,e2,e3,e4,e5⟩:=r.lp i cs' hi
        exact⟨c',arr1,T1,fr1,Ext.snoc _ _ i c' e1,mr e2,e3,e4,fun j x hx=>let ⟨y,hy,ry⟩:=e5 j x hx;⟨y,hy,ry.mono (.refl _) (Ext.snoc _ _)⟩⟩
      · rw[List.getElem?_append_right (by omega)]at hi
        have h0:i-L.length=0:=by have:=aK hi;simp at this;omega
        rw[h0]at hi
        simp at hi
        subst hi
        refine⟨w.heap.size,arr,T,(0,0),?_,nb.new,.inl (by simp),hl.symm,fun j x hx=>let ⟨y,hy,ry⟩:=hlies j x hx;⟨y,hy,ry.mono (.refl _) (Ext.snoc _ _)⟩⟩
        rw[List.getElem?_append_right (by rw[r.len];omega),r.len,h0];rfl
    · intro i j c h1 h2
      rcases snoc h1 with h1|⟨h1,rfl⟩<;>rcases snoc h2 with h2|⟨h2,h2'⟩
      · exact r.nod i j c h1 h2
      · exact absurd (inl h1) (by omega)
      · exact absurd (inl h2) (by omega)
      · omega
    · intro b g cs' c o n i hb hm hi
      rcases snoc hi with hi|⟨_,rfl⟩
      · exact r.hl b g cs' c o n i hb hm hi
      · have:=(r.dom b g _ o n hm).1;omega
    · intro β c arr1 hm
      obtain⟨T1,fr1,e⟩:=r.im β c arr1 hm
      exact⟨T1,fr1,mr e⟩
    · intro β c arr1 i hm hi
      rcases snoc hi with hi|⟨_,rfl⟩
      · exact r.iml β c arr1 i hm hi
      · obtain⟨T1,fr1,e⟩:=r.im β _ arr1 hm
        have:=c6 e;omega
    · intro b g c o n hm
      obtain⟨e1,e2⟩:=r.dom b g c o n hm
      exact⟨by rw[nb.sz];omega,e2⟩
  · refine⟨.refl _,.snoc _ _,by rw[nb.sz];omega,fun c hc _=>nb.old c hc,fun _ _ _ _ _ _ h m=>.inr ⟨_,_,_,_,h,m⟩,?_,fun _ _ _ _ e=>e,Nat.le_refl _,nb.os,nb.out⟩
    intro i c t
    rcases snoc t with t|⟨_,rfl⟩
    · exact .inr t
    · exact .inl (Nat.le_refl _)
def cN.ins(ρ:cN)(b g:Nat)(x:Nat×Nat×Nat):cN:={ ρ with m:=fun b' g'=>if b'=b∧g'=g then some x else ρ.m b' g' }
theorem cN.Dc{ρ:cN}{b g:Nat}{x:Nat×Nat×Nat}(h:ρ.m b g=none):ρ.le (ρ.ins b g x):=
  ⟨fun b' g' y e=>by
    simp only[cN.ins]
    split
    · rename_i hb;obtain⟨rfl,rfl⟩:=hb;rw[h]at e;cases e
    · exact e,fun _ _ _ e=>e⟩
theorem cN.eR(ρ:cN)(b g:Nat)(x:Nat×Nat×Nat):(ρ.ins b g x).m b g=some x:=by simp[cN.ins]
theorem cN.uq{ρ:cN}{b g b' g':Nat}{x:Nat×Nat×Nat}(h:¬(b'=b∧g'=g)):(ρ.ins b g x).m b' g'=ρ.m b' g':=by simp[cN.ins,h]
theorem fk.mono{ρ ρ' ls arr o cs}(h:fk ρ ls arr o cs)(l:ρ.le ρ'):fk ρ' ls arr o cs:=
  fun i x hx=>let ⟨y,e,r⟩:=h i x hx;⟨y,e,r.mono l (.refl _)⟩
theorem RH.lC{ρ ls L h w w' arr T fr cs}(r:RH ρ ls L h w)(nb:iK w (Obj.cells arr T fr) w')(u:dS arr fr)(hl:cs.length≤arr.size)(hlies:fk ρ [] arr 0 cs):
    RH (ρ.ins h.length 0 (w.heap.size,0,arr.size)) ls L (h++[some (0,cs)]) w'∧gW ρ ls h w (ρ.ins h.length 0 (w.heap.size,0,arr.size)) ls (h++[some (0,cs)]) w':=by
  have hnone:ρ.m h.length 0=none:=by
    cases hm:ρ.m h.length 0 with
    | none=>rfl
    | some x=>
      obtain⟨c,o,n⟩:=x
      have:=(r.dom _ _ _ _ _ hm).2.1
      omega
  have hle:ρ.le (ρ.ins h.length 0 (w.heap.size,0,arr.size)):=cN.Dc hnone
  have mr:∀{c:Nat} {x:Obj},w.heap[c]? = some x→w'.heap[c]? = some x:=fun e=>by rw[nb.old _ (c6 e)];exact e
  have inl:∀{i c:Nat},ls[i]? = some c→c<w.heap.size:=fun{i c} e=>by
    have hi:=aK e
    rw[r.len]at hi
    obtain⟨c',arr1,T1,fr1,e1,e2,_⟩:=r.lp i _ (List.getElem?_eq_getElem hi)
    rw[e]at e1
    injection e1 with e1
    subst e1
    exact c6 e2
  have look:∀{b:Nat} {g:Nat} {cs':List AV},(h++[some (0,cs)])[b]? = some (some (g,cs'))→(b<h.length∧h[b]? = some (some (g,cs')))∨(b=h.length∧g=0∧cs'=cs):=by
    intro b g cs' e
    by_cases hb:b<h.length
    · rw[List.getElem?_append_left hb]at e;exact .inl ⟨hb,e⟩
    · rw[List.getElem?_append_right (by omega)]at e
      have h0:b-h.length=0:=by have:=aK e;simp at this;omega
      rw[h0]at e
      simp at e
      exact .inr ⟨by omega,e.1.symm,e.2.symm⟩
  have old:∀{b g:Nat} {x:Nat×Nat×Nat},b<h.length→(ρ.ins h.length 0 (w.heap.size,0,arr.size)).m b g=some x→ρ.m b g=some x:=by
    intro b g x hb e
    rwa[cN.uq (by omega)]at e
  have newm:∀{c o n:Nat},(ρ.ins h.length 0 (w.heap.size,0,arr.size)).m h.length 0=some (c,o,n)→c=w.heap.size:=by
    intro c o n e
    rw[cN.eR]at e
    injection e with e
    injection e with e _
    exact e.symm
  have below:∀{b g c o n:Nat},ρ.m b g=some (c,o,n)→c<w.heap.size:=fun e=>(r.dom _ _ _ _ _ e).1
  constructor
  · refine⟨?_,?_,r.len,r.nod,?_,?_,?_,r.iml,?_,?_⟩
    · intro b g cs' hb
      rcases look hb with⟨hlt,e⟩|⟨rfl,rfl,rfl⟩
      · obtain⟨c',o,n,arr1,T1,fr1,e1,e2,e3,e4,e5,e6⟩:=r.hp b g cs' e
        exact⟨c',o,n,arr1,T1,fr1,hle.m _ _ _ e1,mr e2,e3,e4,e5,e6.mono hle⟩
      · exact⟨w.heap.size,0,arr.size,arr,T,fr,cN.eR _ _ _ _,nb.new,rfl,u,by omega,hlies.mono hle⟩
    · intro i cs' hi
      obtain⟨c',arr1,T1,fr1,e1,e2,e3,e4,e5⟩:=r.lp i cs' hi
      exact⟨c',arr1,T1,fr1,e1,mr e2,e3,e4,e5.mono hle⟩
    · intro b g cs1 b' g' cs2 c o n o' n' h1 h2 m1 m2
      rcases look h1 with⟨l1,e1⟩|⟨rfl,rfl,rfl⟩<;>rcases look h2 with⟨l2,e2⟩|⟨rfl,rfl,rfl⟩
      · exact r.hh _ _ _ _ _ _ _ _ _ _ _ e1 e2 (old l1 m1) (old l2 m2)
      · have:=below (old l1 m1);have:=newm m2;omega
      · have:=below (old l2 m2);have:=newm m1;omega
      · rfl
    · intro b g cs' c o n i hb hm hi
      rcases look hb with⟨l1,e1⟩|⟨rfl,rfl,rfl⟩
      · exact r.hl _ _ _ _ _ _ i e1 (old l1 hm) hi
      · have:=inl hi;have:=newm hm;omega
    · intro β c arr1 hm
      obtain⟨T1,fr1,e⟩:=r.im β c arr1 hm
      exact⟨T1,fr1,mr e⟩
    · intro β c arr1 b g cs' o n hm hb hx
      rcases look hb with⟨l1,e1⟩|⟨rfl,rfl,rfl⟩
      · exact r.imh β c arr1 b g cs' o n hm e1 (old l1 hx)
      · obtain⟨T1,fr1,e⟩:=r.im β c arr1 hm
        have:=c6 e;have:=newm hx;omega
    · intro b g c o n hm
      by_cases hb:b=h.length∧g=0
      · obtain⟨rfl,rfl⟩:=hb
        have:=newm hm
        exact⟨by rw[nb.sz];omega,by simp,fun _ _ _=>Nat.zero_le _⟩
      · rw[cN.uq hb]at hm
        obtain⟨e1,e2,e3⟩:=r.dom b g c o n hm
        refine⟨by rw[nb.sz];omega,by simp;omega,fun g1 cs1 h1=>?_⟩
        rcases look h1 with⟨_,e4⟩|⟨rfl,_,_⟩
        · exact e3 _ _ e4
        · omega
  · refine⟨hle,.refl _,by rw[nb.sz];omega,fun c hc _=>nb.old c hc,?_,fun _ _ h=>.inr h,fun _ _ _ _ e=>e,by simp,nb.os,nb.out⟩
    intro b g cs' c o n hb hm
    rcases look hb with⟨l1,e1⟩|⟨rfl,rfl,rfl⟩
    · exact .inr ⟨g,cs',o,n,e1,old l1 hm⟩
    · exact .inl (by have:=newm hm;omega)
theorem RH.CH{ρ ls L h w w' b g l c o n arr' T' fr' c' o' l'}(r:RH ρ ls L h w)(hb:h[b]? = some (some (g,l)))(hc:ρ.m b g=some (c,o,n))
    (hc':c'=c∧w'.heap.size=w.heap.size∨c'=w.heap.size∧w'.heap.size=w.heap.size+1)
    (hne:∀(x:Nat),x<w.heap.size→x≠c'→w'.heap[x]? = w.heap[x]?) (hnew:w'.heap[c']? = some (Obj.cells arr' T' fr'))
    (u:dS arr' fr') (hl':o'+l'.length≤arr'.size) (hlies:fk ρ [] arr' o' l') (eos:w'.os=w.os) (eout:w'.output=w.output):
    RH (ρ.ins b (g+1) (c',o',arr'.size)) ls L (h.set b (some (g+1,l'))) w'∧gW ρ ls h w (ρ.ins b (g+1) (c',o',arr'.size)) ls (h.set b (some (g+1,l'))) w':=by
  have hbl:=aK hb
  have hnone:ρ.m b (g+1)=none:=by
    cases hm:ρ.m b (g+1)with
    | none=>rfl
    | some x=>
      obtain⟨c1,o1,n1⟩:=x
      have:=(r.dom _ _ _ _ _ hm).2.2 _ _ hb
      omega
  have hle:ρ.le (ρ.ins b (g+1) (c',o',arr'.size)):=cN.Dc hnone
  have below:∀{b g c o n:Nat},ρ.m b g=some (c,o,n)→c<w.heap.size:=fun e=>(r.dom _ _ _ _ _ e).1
  have hcl:=below hc
  have hsz:w.heap.size≤w'.heap.size:=by omega
  have inl:∀{i x:Nat},ls[i]? = some x→x<w.heap.size∧x≠c':=fun{i x} e=>by
    have hi:=aK e
    rw[r.len]at hi
    obtain⟨c1,arr1,T1,fr1,e1,e2,_⟩:=r.lp i _ (List.getElem?_eq_getElem hi)
    rw[e]at e1
    injection e1 with e1
    subst e1
    have hlt:=c6 e2
    refine⟨hlt,fun hx=>?_⟩
    rcases hc' with⟨h1,_⟩|⟨h1,_⟩
    · exact r.hl _ _ _ _ _ _ i hb hc (by rw[←h1,←hx];exact e)
    · omega
  have mr:∀{x:Nat} {y:Obj},x≠c'→w.heap[x]? = some y→w'.heap[x]? = some y:=fun hx e=>by rw[hne _ (c6 e) hx];exact e
  have look:∀{b' g':Nat} {cs:List AV},(h.set b (some (g+1,l')))[b']? = some (some (g',cs))→(b'≠b∧h[b']? = some (some (g',cs)))∨(b'=b∧g'=g+1∧cs=l'):=by
    intro b' g' cs e
    by_cases hbb:b=b'
    · subst hbb
      rw[List.getElem?_set_self hbl]at e
      injection e with e
      injection e with e
      injection e with e1 e2
      exact .inr ⟨rfl,e1.symm,e2.symm⟩
    · rw[List.getElem?_set_ne hbb]at e
      exact .inl ⟨fun h=>hbb h.symm,e⟩
  have old:∀{b' g':Nat} {x:Nat×Nat×Nat},b'≠b→(ρ.ins b (g+1) (c',o',arr'.size)).m b' g'=some x→ρ.m b' g'=some x:=by
    intro b' g' x hb e
    rwa[cN.uq (by intro h;exact hb h.1)]at e
  have newm:∀{c1 o1 n1:Nat},(ρ.ins b (g+1) (c',o',arr'.size)).m b (g+1)=some (c1,o1,n1)→c1=c':=by
    intro c1 o1 n1 e
    rw[cN.eR]at e
    injection e with e
    injection e with e _
    exact e.symm
  have other:∀{b' g':Nat} {cs:List AV} {c1 o1 n1:Nat},b'≠b→h[b']? = some (some (g',cs))→ρ.m b' g'=some (c1,o1,n1)→c1≠c':=by
    intro b' g' cs c1 o1 n1 hbb e m e'
    rcases hc' with⟨h1,_⟩|⟨h1,_⟩
    · exact hbb (r.hh _ _ _ _ _ _ c1 _ _ _ _ e hb m (by rw[e',h1];exact hc))
    · have:=below m;omega
  constructor
  · refine⟨?_,?_,r.len,r.nod,?_,?_,?_,r.iml,?_,?_⟩
    · intro b' g' cs hb'
      rcases look hb' with⟨hbb,e⟩|⟨rfl,rfl,rfl⟩
      · obtain⟨c1,o1,n1,arr1,T1,fr1,e1,e2,e3,e4,e5,e6⟩:=r.hp b' g' cs e
        exact⟨c1,o1,n1,arr1,T1,fr1,hle.m _ _ _ e1,mr (other hbb e e1) e2,e3,e4,e5,e6.mono hle⟩
      · exact⟨c',o',arr'.size,arr',T',fr',cN.eR _ _ _ _,hnew,rfl,u,hl',hlies.mono hle⟩
    · intro i cs hi
      obtain⟨c1,arr1,T1,fr1,e1,e2,e3,e4,e5⟩:=r.lp i cs hi
      exact⟨c1,arr1,T1,fr1,e1,mr (inl e1).2 e2,e3,e4,e5.mono hle⟩
    · intro b1 g1 cs1 b2 g2 cs2 c1 o1 n1 o2 n2 h1 h2 m1 m2
      rcases look h1 with⟨l1,e1⟩|⟨rfl,rfl,rfl⟩<;>rcases look h2 with⟨l2,e2⟩|⟨rfl,rfl,rfl⟩
      · exact r.hh _ _ _ _ _ _ _ _ _ _ _ e1 e2 (old l1 m1) (old l2 m2)
      · exact absurd (newm m2) (other l1 e1 (old l1 m1))
      · exact absurd (newm m1) (other l2 e2 (old l2 m2))
      · rfl
    · intro b1 g1 cs1 c1 o1 n1 i hb1 hm hi
      rcases look hb1 with⟨l1,e1⟩|⟨rfl,rfl,rfl⟩
      · exact r.hl _ _ _ _ _ _ i e1 (old l1 hm) hi
      · exact(inl hi).2 (newm hm)
    · intro β c1 arr1 hm
      obtain⟨T1,fr1,e⟩:=r.im β c1 arr1 hm
      refine⟨T1,fr1,mr (fun hx=>?_) e⟩
      rcases hc' with⟨h1,_⟩|⟨h1,_⟩
      · exact r.imh β c1 arr1 b g l o n hm hb (by rw[hx,h1];exact hc)
      · have:=c6 e;omega
    · intro β c1 arr1 b1 g1 cs1 o1 n1 hm hb1 hx
      rcases look hb1 with⟨l1,e1⟩|⟨rfl,rfl,rfl⟩
      · exact r.imh β c1 arr1 b1 g1 cs1 o1 n1 hm e1 (old l1 hx)
      · have hx':=newm hx
        obtain⟨T1,fr1,e⟩:=r.im β c1 arr1 hm
        rcases hc' with⟨h1,_⟩|⟨h1,_⟩
        · exact r.imh β c1 arr1 b1 g l o n hm hb (by rw[hx',h1];exact hc)
        · have:=c6 e;omega
    · intro b1 g1 c1 o1 n1 hm
      by_cases hb1:b1=b∧g1=g+1
      · obtain⟨rfl,rfl⟩:=hb1
        have:=newm hm
        exact⟨by omega,by simpa using hbl,fun g2 cs2 h2=>by
          rcases look h2 with⟨hne',_⟩|⟨_,rfl,_⟩
          · exact absurd rfl hne'
          · exact Nat.le_refl _⟩
      · rw[cN.uq hb1]at hm
        obtain⟨e1,e2,e3⟩:=r.dom b1 g1 c1 o1 n1 hm
        refine⟨by omega,by simpa using e2,fun g2 cs2 h2=>?_⟩
        rcases look h2 with⟨_,e4⟩|⟨rfl,rfl,_⟩
        · exact e3 _ _ e4
        · have:=e3 _ _ hb;omega
  · refine⟨hle,.refl _,hsz,fun x hx ht=>?_,?_,fun _ _ h=>.inr h,fun _ _ _ _ e=>e,by simp,eos,eout⟩
    · by_cases hxc:x=c'
      · rcases hc' with⟨h1,_⟩|⟨h1,_⟩
        · exact absurd (.inr ⟨b,g,l,o,n,hb,by rw[hxc,h1];exact hc⟩) ht
        · omega
      · exact hne x hx hxc
    · intro b1 g1 cs1 x o1 n1 hb1 hm
      rcases look hb1 with⟨l1,e1⟩|⟨rfl,rfl,rfl⟩
      · exact .inr ⟨g1,cs1,o1,n1,e1,old l1 hm⟩
      · have hx':=newm hm
        rcases hc' with⟨h1,_⟩|⟨h1,_⟩
        · exact .inr ⟨g,l,o,n,hb,by rw[hx',h1];exact hc⟩
        · exact .inl (by omega)
end Go.AM
namespace Go.AM
def jG:TypeDesc→TK
  | .bool=>.bool|.int k=>.int k|.string=>.str|.pointer e=>.ptr e|.slice e=>.slice e|.array n e=>.arr n e
  | .struct fs=>.strct (fs.toList.map fun f=>(f.offset,f.type))|.interface _=>.iface|.func _ _ _=>.fn|_=>.other
def K2(P:Program)(t:TypeId):Option (TK×Nat×Nat×List AV×Bool):=
  (P.info? t).bind fun i=>(P.underlying t).bind fun d=>i.zero.map fun z=>
    (jG d,i.size,i.bytes,z.cells.toList.map pR,(z.cells.size == i.size) && z.cells.toList.all (·.oneCell'))
def oP(P:Program)(t:TypeId)(ks:List TK):Prop:=
  P.eqGuardType P.depth t=false∧∀(w:World) (ρ:cN) (ls:List Nat) (zas bs:List AV) (xs ys:Array Value) (r:Bool),
    eB ρ ls zas xs.toList→eB ρ ls bs ys.toList→pq ks zas bs=some r→(Op.equal t (.agg xs) (.agg ys)).run P w=.ok r w
def cX(P:Program)(Θ:jL):Prop:=∀t ti,Θ t=some ti→K2 P t=some (ti.kd,ti.size,ti.bytes,ti.zero,true)∧∀ks,ti.plainEq=some ks→oP P t ks
structure TF (P:Program) (t:TypeId) (ti:TI):Prop where
  info:∃i d z,P.info? t=some i∧P.underlying t=some d∧i.size=ti.size∧i.bytes=ti.bytes∧i.zero=some z∧jG d=ti.kd∧
    z.cells.toList.map pR=ti.zero∧z.cells.size=ti.size∧(∀v∈z.cells.toList,v.oneCell'=true)
  eq:∀ks,ti.plainEq=some ks→oP P t ks
theorem cX.tf{P Θ t ti}(h:cX P Θ)(e:Θ t=some ti):TF P t ti:=by
  obtain⟨h1,h2⟩:=h t ti e
  refine⟨?_,h2⟩
  unfold K2 at h1
  cases hi:P.info? t with
  | none=>simp[hi]at h1
  | some i=>
    cases hd:P.underlying t with
    | none=>simp[hi,hd]at h1
    | some d=>
      cases hz:i.zero with
      | none=>simp[hi,hd,hz]at h1
      | some z=>
        simp only[hi,hd,hz,Option.bind_some,Option.map_some,Option.some.injEq,Prod.mk.injEq,Bool.and_eq_true,beq_iff_eq,List.all_eq_true]at h1
        obtain⟨a,b,c,d',e',f⟩:=h1
        exact⟨i,d,z,rfl,rfl,b,c,hz,a,d',by omega,f⟩
section
variable {P:Program} {Γ:bG} {ρ:cN} {ls:List Nat} {s:St} {a:Act} {w:World}
theorem run_typeInfo{t:TypeId}{i:TypeInfo}(h:P.info? t=some i):(typeInfo t).run P w=.ok i w:=by simp[typeInfo,h]
theorem aO{t:TypeId}{d:TypeDesc}(h:P.underlying t=some d):(underlying t).run P w=.ok d w:=by simp[underlying,h]
theorem iP{t:TypeId}{i:TypeInfo}(h:P.info? t=some i):(sizeOf t).run P w=.ok i.size w:=by simp[sizeOf,run_typeInfo h]
theorem gv{t:TypeId}{i:TypeInfo}{z:Value}(h:P.info? t=some i)(hz:i.zero=some z):(zeroValue t).run P w=.ok z w:=by simp[zeroValue,run_typeInfo h,hz]
theorem xl(v:Value):RV ρ ls (pR v) v:=by
  unfold pR
  split<;>first|exact .bool _ _|exact .int _ _ _|exact .str _ _|exact .nilp _|exact .nils _|exact .nilf _|exact .opq _ _
theorem b7(vs:Array Value)(i:Nat)(d:Value):vs.toList.getD i d=vs.getD i d:=by
  simp
theorem kp(vs:List Value):eB ρ ls (vs.map pR) vs:=by
  refine⟨by simp,fun i x hx=>?_⟩
  rw[List.getElem?_map]at hx
  cases hv:vs[i]? with
  | none=>simp[hv]at hx
  | some v=>
    simp[hv]at hx
    subst hx
    rw[List.getD_eq_getElem?_getD,hv]
    exact xl v
theorem DO(v:Value):RV ρ ls (J3 v) v:=by
  unfold J3
  split
  · rename_i cs
    have h:=kp (ρ:=ρ) (ls:=ls) cs.toList
    exact .agg _ _ _ (by simp) (fun i x hx=>by rw[←b7];exact h.2 i x hx)
  · exact xl v
theorem bd(rel:Rel Γ ρ ls s a w)(x:Operand):RV ρ ls (s.eval Γ (eJ x)) (a.eval x):=by
  cases x with
  | tmp t=>
    simp only[eJ,St.eval,Act.eval]
    rw[List.getD_eq_getElem?_getD]
    cases h:s.env[t]? with
    | none=>exact .any _ _
    | some x=>exact rel.env t x h
  | const v=>exact DO v
  | global g=>
    simp only[eJ,St.eval,Act.eval]
    split
    · rename_i cs hg
      obtain⟨arr,h1,h2,_⟩:=rel.glob g cs hg
      refine .ip _ false cs g 0 (fun j=>arr.getD (0+j) default) (fun j x hx=>?_) (fun j x hx=>?_)
      · obtain⟨y,hy,_⟩:=h2 j x hx
        exact⟨arr,h1,by simp at hy ⊢;simp[hy]⟩
      · obtain⟨y,hy,r⟩:=h2 j x hx
        simp at hy ⊢
        simpa[hy]using r
    · exact .any _ _
  | func f=>exact .fn _ f [] [] #[] #[] rfl rfl (fun i x h=>by simp at h) (fun i x h=>by simp at h)
theorem gx(rel:Rel Γ ρ ls s a w)(xs:List Operand):eB ρ ls ((xs.map eJ).map (s.eval Γ)) (xs.map a.eval):=by
  refine⟨by simp,fun i x hx=>?_⟩
  simp only[List.map_map,List.getElem?_map]at hx
  cases h:xs[i]? with
  | none=>simp[h]at hx
  | some o=>
    simp[h]at hx
    subst hx
    rw[List.getD_eq_getElem?_getD,List.getElem?_map,h]
    exact bd rel o
theorem p9{x:AV}{v:Value}{cs:List AV}(h:RV ρ ls x v)(hc:cellsOf x=some cs):eB ρ ls cs v.cells.toList:=by
  have one:∀{x:AV} {v:Value},RV ρ ls x v→eB ρ ls [x] #[v].toList:=fun r=>⟨rfl,fun i y hy=>by
    cases i with
    | zero=>simp at hy;subst hy;exact r
    | succ i=>simp at hy⟩
  have h':=h
  cases h with
  | any=>simp[cellsOf]at hc
  | agg _ _ vs h1 r=>
    simp[cellsOf]at hc
    subst hc
    exact⟨by simp[Value.cells,h1],fun i x hx=>by simp only[Value.cells];rw[b7];exact r i x hx⟩
  | tup=>simp[cellsOf]at hc
  | opq v=>
    simp only[cellsOf]at hc
    split at hc
    · rename_i h1
      injection hc with hc
      subst hc
      have e:v.cells=#[v]:=by cases v<;>first|rfl|(simp[Value.oneCell']at h1)
      rw[e]
      exact one (.opq _ _)
    · cases hc
  | _=>
    simp only[cellsOf,Option.some.injEq]at hc
    subst hc
    exact one h'
def gf(P:Program)(ρ:cN)(ls:List Nat)(s:St)(a:Act)(w:World)(o:Oper):AR→Prop
  | .val v s'=>s'.env=s.env∧∃nx cv w' ρ' ls',(execOp a.eval o).run P w=.ok nx w'∧(nx=.value cv∨nx=.skip∧cv=undef)∧
      RV ρ' ls' v cv∧RH ρ' ls' s'.loc s'.heap w'∧gW ρ ls s.heap w ρ' ls' s'.heap w'
  | .call f args=>∃cargs:List Value,(execOp a.eval o).run P w=(callFunc f cargs.toArray).run P w∧eB ρ ls args cargs
  | .stuck=>True
theorem gf.pure{o:Oper}{v:AV}{cv:Value}(mem:RH ρ ls s.loc s.heap w)(h:(execOp a.eval o).run P w=.ok (.value cv) w)(r:RV ρ ls v cv):gf P ρ ls s a w o (.val v s):=
  ⟨rfl,_,cv,w,ρ,ls,h,.inl rfl,r,mem,.refl _ _ _ _⟩
theorem gf.eI{o:Oper}{x:Option AV}(mem:RH ρ ls s.loc s.heap w)(h:∀v,x=some v→∃cv,(execOp a.eval o).run P w=.ok (.value cv) w∧RV ρ ls v cv):
    gf P ρ ls s a w o (AR.eI s x):=by
  cases x with
  | none=>trivial
  | some v=>obtain⟨cv,h1,h2⟩:=h v rfl;exact .pure mem h1 h2
theorem jP(mem:RH ρ ls s.loc s.heap w){x:AV}{v:Value}{n:Nat}{cs:List AV}(r:RV ρ ls x v)(h:s.cells x n=some cs):
    ∃c o vals,v=.pointer (some ⟨c,o,none⟩)∧vals.length=n∧eB ρ ls cs vals∧∀(j:Nat) (u:Value),vals[j]? = some u→w.cell? ⟨c,o+j,none⟩=some u:=by
  cases r with
  | lp _ i off c hl=>
    simp only[St.cells]at h
    cases hL:s.loc[i]? with
    | none=>simp[hL]at h
    | some l=>
      simp only[hL,Option.bind_some]at h
      obtain⟨h1,h2,h3⟩:=hU h
      obtain⟨c',arr,T,fr,e1,e2,e3,e4,e5⟩:=mem.lp i l hL
      rw[hl]at e1
      injection e1 with e1
      subst e1
      refine⟨c,off,(arr.toList.drop off).take n,rfl,by simp;omega,⟨by simp;omega,fun j x hx=>?_⟩,fun j u hu=>?_⟩
      · have hj:j<n:=by have:=aK hx;omega
        rw[h3 j hj]at hx
        obtain⟨y,hy,ry⟩:=e5 _ x hx
        rw[List.getD_eq_getElem?_getD,List.getElem?_take,if_pos hj,List.getElem?_drop]
        simp at hy
        simp[hy,ry]
      · rw[cell_of e2]
        have hj:j<n:=by have:=aK hu;simp at this;omega
        rw[List.getElem?_take,if_pos hj,List.getElem?_drop]at hu
        simpa using hu
  | gp _ b g off c o n' hm=>
    simp only[St.cells]at h
    cases hb:bA s.heap b with
    | none=>simp[hb]at h
    | some e=>
      obtain⟨g',l⟩:=e
      simp only[hb,Option.bind_some]at h
      split at h
      · rename_i hg
        have hg':g'=g:=hg
        subst hg'
        obtain⟨h1,h2,h3⟩:=hU h
        obtain⟨c',o',n'',arr,T,fr,e1,e2,e3,e4,e5,e6⟩:=mem.hp b g' l (b6 hb)
        rw[hm]at e1
        injection e1 with e1
        injection e1 with e1 e1'
        injection e1' with e1' e1''
        subst e1 e1' e1''
        have h1':off+n≤l.length:=h1
        refine⟨c,o+off,(arr.toList.drop (o+off)).take n,rfl,by simp;omega,⟨by simp;omega,fun j x hx=>?_⟩,fun j u hu=>?_⟩
        · have hj:j<n:=by have:=aK hx;omega
          rw[h3 j hj]at hx
          obtain⟨y,hy,ry⟩:=e6 _ x hx
          rw[List.getD_eq_getElem?_getD,List.getElem?_take,if_pos hj,List.getElem?_drop]
          rw[←Nat.add_assoc]at hy
          rw[show arr.toList[o+off+j]? = some y from by simpa using hy]
          exact ry.mono (.refl _) (.nil _)
        · rw[cell_of e2]
          have hj:j<n:=by have:=aK hu;simp at this;omega
          rw[List.getElem?_take,if_pos hj,List.getElem?_drop]at hu
          simpa using hu
      · cases h
  | ip _ β l c o f hi ri=>
    simp only[St.cells]at h
    obtain⟨h1,h2,h3⟩:=hU h
    refine⟨c,o,(List.range n).map f,rfl,by simp,⟨by simp;omega,fun j x hx=>?_⟩,fun j u hu=>?_⟩
    · have hj:j<n:=by have:=aK hx;omega
      rw[h3 j hj,Nat.zero_add]at hx
      simp[hj]
      exact(ri j x hx).mono (.refl _) (.nil _)
    · have hj:j<n:=by have:=aK hu;simp at this;omega
      simp[hj]at hu
      subst hu
      obtain⟨arr,e1,e2⟩:=hi j l[j] (List.getElem?_eq_getElem (by omega))
      obtain⟨T,fr,e3⟩:=mem.im β c arr e1
      rw[cell_of e3];exact e2
  | _=>simp[St.cells]at h
end
end Go.AM
namespace Go.AM
section
variable {P:Program} {Γ:bG} {ρ:cN} {ls:List Nat} {s:St} {a:Act} {w:World}
theorem ml{t:TypeId}{ti:TI}(h:TF P t ti):(isAgg t).run P w=.ok ti.isAgg w:=by
  obtain⟨i,d,z,h1,h2,h3,h4,h5,h6,_⟩:=h.info
  simp only[isAgg,Sem.run_bind,aO h2,Result.andThen_ok,TI.isAgg,←h6]
  cases d<;>rfl
theorem TF.tu{t:TypeId}{ti:TI}(h:TF P t ti){fs}(e:ti.kd=.strct fs):∃fields:Array Field,P.underlying t=some (.struct fields)∧fs=fields.toList.map (fun f=>(f.offset,f.type)):=by
  obtain⟨i,d,z,h1,h2,h3,h4,h5,h6,_⟩:=h.info
  rw[e]at h6
  cases d<;>simp[jG]at h6
  exact⟨_,h2,h6.symm⟩
theorem TF.eQ{t:TypeId}{ti:TI}(h:TF P t ti){e:TypeId}(he:ti.kd=.slice e):P.underlying t=some (.slice e):=by
  obtain⟨i,d,z,h1,h2,h3,h4,h5,h6,_⟩:=h.info
  rw[he]at h6
  cases d<;>simp[jG]at h6
  rw[h2,h6]
theorem TF.pW{t:TypeId}{ti:TI}(h:TF P t ti){n:Nat}{e:TypeId}(he:ti.kd=.arr n e):P.underlying t=some (.array n e):=by
  obtain⟨i,d,z,h1,h2,h3,h4,h5,h6,_⟩:=h.info
  rw[he]at h6
  cases d<;>simp[jG]at h6
  rw[h2,h6.1,h6.2]
theorem TF.jK{t:TypeId}{ti:TI}(h:TF P t ti)(he:ti.kd=.str):P.underlying t=some .string:=by
  obtain⟨i,d,z,h1,h2,h3,h4,h5,h6,_⟩:=h.info
  rw[he]at h6
  cases d<;>simp[jG]at h6
  exact h2
theorem TF.Ey{t:TypeId}{ti:TI}(h:TF P t ti)(he:ti.kd=.bool):P.underlying t=some .bool:=by
  obtain⟨i,d,z,h1,h2,h3,h4,h5,h6,_⟩:=h.info
  rw[he]at h6
  cases d<;>simp[jG]at h6
  exact h2
theorem TF.pT{t:TypeId}{ti:TI}(h:TF P t ti){k:IntKind}(he:ti.kd=.int k):P.underlying t=some (.int k):=by
  obtain⟨i,d,z,h1,h2,h3,h4,h5,h6,_⟩:=h.info
  rw[he]at h6
  cases d<;>simp[jG]at h6
  rw[h2,h6]
theorem TF.K3{t:TypeId}{ti:TI}(h:TF P t ti){e:TypeId}(he:ti.kd=.ptr e):P.underlying t=some (.pointer e):=by
  obtain⟨i,d,z,h1,h2,h3,h4,h5,h6,_⟩:=h.info
  rw[he]at h6
  cases d<;>simp[jG]at h6
  rw[h2,h6]
theorem TF.NJ{t:TypeId}{ti:TI}(h:TF P t ti)(he:ti.kd=.fn):∃x y z,P.underlying t=some (.func x y z):=by
  obtain⟨i,d,z,h1,h2,h3,h4,h5,h6,_⟩:=h.info
  rw[he]at h6
  cases d<;>simp[jG]at h6
  exact⟨_,_,_,h2⟩
theorem TF.Cz{t:TypeId}{ti:TI}(h:TF P t ti)(he:ti.kd=.iface):∃ms,P.underlying t=some (.interface ms):=by
  obtain⟨i,d,z,h1,h2,h3,h4,h5,h6,_⟩:=h.info
  rw[he]at h6
  cases d<;>simp[jG]at h6
  exact⟨_,h2⟩
theorem TF.size{t:TypeId}{ti:TI}(h:TF P t ti):∃i,P.info? t=some i∧i.size=ti.size∧i.bytes=ti.bytes:=by
  obtain⟨i,d,z,h1,h2,h3,h4,_⟩:=h.info
  exact⟨i,h1,h3,h4⟩
theorem b9{t:TypeId}{ti:TI}(h:TF P t ti):(sizeOf t).run P w=.ok ti.size w:=by
  obtain⟨i,h1,h2,_⟩:=h.size
  rw[iP h1,h2]
theorem nT{Θ:jL}(da:cX P Θ){t:TypeId}{ei:TI}(h:elemOf Θ t=some ei):∃e,P.underlying t=some (.slice e)∧TF P e ei:=by
  unfold elemOf at h
  cases ht:Θ t with
  | none=>simp[ht]at h
  | some ti=>
    simp only[ht,Option.bind_some]at h
    split at h
    · rename_i e he
      exact⟨e,(da.tf ht).eQ he,da.tf h⟩
    · cases h
theorem zO(mem:RH ρ ls s.loc s.heap w){t:TypeId}{ti:TI}(ht:TF P t ti){x:AV}{xv:Value}(r:RV ρ ls x xv){v:AV}
    (h:(s.cells x ti.size).bind (fy ti.isAgg)=some v):∃cv,(Instr.loadAt t xv).run P w=.ok cv w∧RV ρ ls v cv:=by
  cases hc:s.cells x ti.size with
  | none=>simp[hc]at h
  | some cs=>
    simp only[hc,Option.bind_some]at h
    obtain⟨c,o,vals,rfl,hlen,hvs,hcell⟩:=jP mem r hc
    simp only[Instr.loadAt,Instr.sureAddr,loadVar,Sem.run_bind,Sem.run_pure,Result.andThen_ok,ml ht]
    unfold fy at h
    split at h
    · rename_i hag
      injection h with h
      subst h
      refine⟨.agg vals.toArray,?_,.agg _ _ _ (by simpa using hvs.1) (fun i x hx=>?_)⟩
      · have hl:=run_loadCells_list (P:=P) (w:=w) ⟨c,o,none⟩ vals (fun j v hv=>by rw[addr_add];exact hcell j v hv)
        rw[hlen]at hl
        simp[hag,b9 ht,hl]
      · have:=hvs.2 i x hx
        simpa using this
    · rename_i x hag
      injection h with h
      subst h
      have h1:=hvs.1
      match vals,h1 with
      | [u],_=>
        have hu:=hcell 0 u rfl
        have hr:=hvs.2 0 x rfl
        exact⟨u,by simp[hag,run_load];rw[show(⟨c,o,none⟩:Addr)=⟨c,o+0,none⟩ from rfl,hu],hr⟩
    · cases h
theorem CW{x:AV}{xv:Value}(r:RV ρ ls x xv){off:Nat}{v:AV}(h:mz off x=some v):
    ∃c o,xv=.pointer (some ⟨c,o,none⟩)∧RV ρ ls v (.pointer (some ⟨c,o+off,none⟩)):=by
  cases r with
  | lp _ i o c hl=>
    simp only[mz,Option.some.injEq]at h
    subst h
    exact⟨c,o,rfl,.lp _ _ _ _ hl⟩
  | gp _ b g o c o' n hm=>
    simp only[mz,Option.some.injEq]at h
    subst h
    exact⟨c,o'+o,rfl,by rw[Nat.add_assoc];exact .gp _ _ _ _ _ _ _ hm⟩
  | ip _ β cs c o f h1 h2=>
    simp only[mz,Option.some.injEq]at h
    subst h
    refine⟨c,o,rfl,.ip _ _ _ _ _ (fun j=>f (off+j)) (fun j x hx=>?_) (fun j x hx=>?_)⟩
    · rw[List.getElem?_drop]at hx
      obtain⟨arr,e1,e2⟩:=h1 _ x hx
      exact⟨arr,e1,by rw[Nat.add_assoc];exact e2⟩
    · rw[List.getElem?_drop]at hx
      exact h2 _ x hx
  | _=>simp[mz]at h
theorem yg{t:TypeId}{ti:TI}(ht:TF P t ti){fs}(hk:ti.kd=.strct fs){f off:Nat}{ft:TypeId}(hf:fs[f]? = some (off,ft)){fi:TI}(hfi:TF P ft fi)(h0:fi.size≠0)
    {c o:Nat}:(Instr.fieldAt t (.pointer (some ⟨c,o,none⟩)) f).run P w=.ok (.pointer (some ⟨c,o+off,none⟩)) w:=by
  obtain⟨fields,h1,h2⟩:=ht.tu hk
  subst h2
  rw[List.getElem?_map]at hf
  cases hff:fields.toList[f]? with
  | none=>simp[hff]at hf
  | some fl=>
    simp[hff]at hf
    obtain⟨rfl,rfl⟩:=hf
    have hff':fields[f]? = some fl:=by simpa using hff
    simp[Instr.fieldAt,aO h1,hff',Instr.sureAddr,fieldPlace,b9 hfi,h0,addr_add]
theorem Dt(mem:RH ρ ls s.loc s.heap w){t e:TypeId}{ti ei:TI}(ht:TF P t ti)(hk:ti.kd=.slice e)(he:TF P e ei){x:AV}{xv:Value}(r:RV ρ ls x xv){k:IntKind}{i:Int}{v:AV}
    (h:cm ei.size x i=some v):∃cv,(Instr.indexAt t xv (.int k i)).run P w=.ok cv w∧RV ρ ls v cv:=by
  have hu:=ht.eQ hk
  cases r with
  | vs _ β sz ex xs c o cap' f h1 h2 h3 h4 r=>
    simp only[cm]at h
    split at h
    · rename_i hsz
      split at h
      · rename_i h0
        cases hx:xs[i.toNat]? with
        | none=>simp[hx]at h
        | some l=>
          simp[hx]at h
          subst h
          have hlt:=aK hx
          refine⟨.pointer (some ⟨c,o+i.toNat*ei.size,none⟩),?_,.ip _ _ _ _ _ (f i.toNat) (fun j y hy=>?_) (fun j y hy=>r _ l hx j y hy)⟩
          · have hi:i<xs.length:=by omega
            simp[Instr.indexAt,asIntOf,aO hu,h0,hi,b9 he,addr_add]
          · obtain⟨arr,e1,e2⟩:=h4 _ l hx j y hy
            exact⟨arr,e1,by rw[hsz,Nat.add_assoc];exact e2⟩
      · cases h
    · cases h
  | vs0=>
    simp[cm]at h
  | vsn=>
    simp[cm]at h
  | gs _ b g off len cap sz ex c o n cap' hm h1 h2 h3 h4=>
    simp only[cm]at h
    split at h
    · split at h
      · rename_i hsz hi
        injection h with h
        subst h
        refine⟨.pointer (some ⟨c,o+off+i.toNat*ei.size,none⟩),?_,by rw[Nat.add_assoc];exact .gp _ _ _ _ _ _ _ hm⟩
        simp[Instr.indexAt,asIntOf,aO hu,hi,b9 he,addr_add]
      · cases h
    · cases h
  | gs0 _ b g off sz ex c o n a hm=>
    simp only[cm]at h
    split at h
    · split at h
      · omega
      · cases h
    · cases h
  | _=>simp[cm]at h
theorem Et{t e:TypeId}{n:Nat}{ti ei:TI}(ht:TF P t ti)(hk:ti.kd=.arr n e)(he:TF P e ei){x:AV}{xv:Value}(r:RV ρ ls x xv){k:IntKind}{i:Int}{v:AV}
    (h:p8 n ei.size x i=some v):∃cv,(Instr.indexAt t xv (.int k i)).run P w=.ok cv w∧RV ρ ls v cv:=by
  have hu:=ht.pW hk
  unfold p8 at h
  split at h
  · rename_i hi
    obtain⟨c,o,rfl,rv⟩:=CW r h
    refine⟨_,?_,rv⟩
    simp[Instr.indexAt,asIntOf,aO hu,hi,b9 he,addr_add,Instr.sureAddr]
  · cases h
theorem Bc{op:BinOp}{k:IntKind}{x y:Int}{v:AV}(hs:op≠.shl)(hr:op≠.shr)(t:TypeId)(h:fh op k x y=some v):
    ∃cv,(binOp op t (.int k x) (.int k y)).run P w=.ok cv w∧RV ρ ls v cv:=by
  cases op<;>simp only[fh]at h<;>first
    | exact absurd rfl hs
    | exact absurd rfl hr
    | (injection h with h;subst h;exact⟨_,by simp only[binOp,ne_eq,not_true_eq_false,if_false,Op.intArith,Op.intBits,Op.intCmp];rfl,by constructor⟩)
    | (split at h;· cases h
       · injection h with h;subst h;rename_i h0;exact⟨_,by simp[binOp,Op.intDiv,h0];rfl,by constructor⟩)
    | (simp at h;done)
theorem iY(t:TypeId)(x y:Value):∃d,Op.equal t x y=Op.equalIn (d+1) t x y:=⟨9999,rfl⟩
theorem Ed{x y:AV}{xv yv:Value}(rx:RV ρ ls x xv)(ry:RV ρ ls y yv){b:Bool}(h:vH x y=some b){t e:TypeId}(hd:P.underlying t=some (.pointer e)):
    (Op.equal t xv yv).run P w=.ok b w:=by
  obtain⟨d,e0⟩:=iY t _ _
  rw[e0]
  simp only[Op.equalIn,Sem.run_bind,aO hd,Result.andThen_ok]
  cases rx<;>cases ry<;>simp[vH]at h<;>subst h<;>rfl
theorem pj{x y:AV}{xv yv:Value}(rx:RV ρ ls x xv)(ry:RV ρ ls y yv){b:Bool}(h:uV x y=some b):
    (xv=.slice none 0 0∧yv=.slice none 0 0∧b=true)∨(∃a n c,xv=.slice none 0 0∧yv=.slice (some a) n c∧b=false)∨(∃a n c,xv=.slice (some a) n c∧yv=.slice none 0 0∧b=false):=by
  unfold uV at h
  split at h<;>first|(cases h;done)|skip
  all_goals (injection h with h;subst h)
  all_goals cases rx<;>cases ry<;>first|exact .inl ⟨rfl,rfl,rfl⟩|exact .inr (.inl ⟨_,_,_,rfl,rfl,rfl⟩)|exact .inr (.inr ⟨_,_,_,rfl,rfl,rfl⟩)
theorem Es{x y:AV}{xv yv:Value}(rx:RV ρ ls x xv)(ry:RV ρ ls y yv){b:Bool}(h:uV x y=some b){t e:TypeId}(hd:P.underlying t=some (.slice e)):
    (Op.equal t xv yv).run P w=.ok b w:=by
  obtain⟨d,e0⟩:=iY t _ _
  rw[e0]
  simp only[Op.equalIn,Sem.run_bind,aO hd,Result.andThen_ok]
  rcases pj rx ry h with⟨rfl,rfl,rfl⟩|⟨a,n,c,rfl,rfl,rfl⟩|⟨a,n,c,rfl,rfl,rfl⟩<;>rfl
theorem D8{x y:AV}{xv yv:Value}(rx:RV ρ ls x xv)(ry:RV ρ ls y yv){b:Bool}(h:vE x y=some b){t:TypeId}{u v z}(hd:P.underlying t=some (.func u v z)):
    (Op.equal t xv yv).run P w=.ok b w:=by
  obtain⟨d,e0⟩:=iY t _ _
  rw[e0]
  simp only[Op.equalIn,Sem.run_bind,aO hd,Result.andThen_ok]
  cases rx<;>cases ry<;>simp[vE]at h<;>subst h<;>rfl
theorem DQ{x y b:Bool}{t:TypeId}(hd:P.underlying t=some .bool)(h:(x == y)=b):(Op.equal t (.bool x) (.bool y)).run P w=.ok b w:=by
  obtain⟨d,e0⟩:=iY t _ _
  rw[e0]
  simp only[Op.equalIn,Sem.run_bind,aO hd,Result.andThen_ok,h]
  rfl
theorem EC{x y:Value}{b:Bool}{t:TypeId}{ms}(hd:P.underlying t=some (.interface ms))(h:jW .iface (.opq x) (.opq y)=some b):(Op.equal t x y).run P w=.ok b w:=by
  obtain⟨d,e0⟩:=iY t _ _
  rw[e0]
  simp only[Op.equalIn,Sem.run_bind,aO hd,Result.andThen_ok]
  cases x<;>cases y<;>simp[jW]at h<;>subst h<;>rfl
end
end Go.AM
namespace Go.AM
section
variable {P:Program} {Γ:bG} {ρ:cN} {ls:List Nat} {s:St} {a:Act} {w:World}
def iD:Value→Bool
  | .bool _|.pointer _|.slice _ _ _|.func _ _ _|.nilFunc|.agg _|.iface _ _|.nilIface=>true
  | _=>false
theorem binOp_eql{t:TypeId}{x y:Value}(hx:iD x=true)(hy:iD y=true){b:Bool}(h:(Op.equal t x y).run P w=.ok b w):(binOp .eql t x y).run P w=.ok (.bool b) w:=by
  cases x<;>simp[iD]at hx<;>cases y<;>simp[iD]at hy<;>simp[binOp,h]
theorem binOp_neq{t:TypeId}{x y:Value}(hx:iD x=true)(hy:iD y=true){b:Bool}(h:(Op.equal t x y).run P w=.ok b w):(binOp .neq t x y).run P w=.ok (.bool !b) w:=by
  cases x<;>simp[iD]at hx<;>cases y<;>simp[iD]at hy<;>simp[binOp,h]
theorem jh{op:BinOp}{t:TypeId}{X Y:Operand}{x y:Value}(h1:∀cs cs',x=.agg cs→y=.agg cs'→P.eqGuardType P.depth t=false)
    (h2:x=.nilIface→y=.nilIface→(Region.isConst X || Region.isConst Y)=true):(eqGuard op t X Y x y).run P w=.ok () w:=by
  unfold eqGuard
  split
  · simp only[Bool.not_true,Bool.false_eq_true,if_false]
    split
    · have:=h2 rfl rfl
      cases X<;>cases Y<;>simp[Region.isConst]at this<;>simp
    · simp[h1 _ _ rfl rfl]
    · rfl
  · simp only[Bool.not_true,Bool.false_eq_true,if_false]
    split
    · have:=h2 rfl rfl
      cases X<;>cases Y<;>simp[Region.isConst]at this<;>simp
    · simp[h1 _ _ rfl rfl]
    · rfl
  · rfl
theorem Ar{t:TypeId}{ti:TI}(ht:TF P t ti){k:EK}(h:A7 ti=some k):
    match k with
    | .num=>True
    | .bool=>P.underlying t=some .bool
    | .agg ks=>oP P t ks
    | .nilp=>∃e,P.underlying t=some (.pointer e)
    | .nils=>∃e,P.underlying t=some (.slice e)
    | .nilf=>∃u v z,P.underlying t=some (.func u v z)
    | .iface=>∃ms,P.underlying t=some (.interface ms):=by
  unfold A7 at h
  split at h
  · injection h with h;subst h;trivial
  · injection h with h;subst h;trivial
  · rename_i hk;injection h with h;subst h;exact ht.Ey hk
  · rename_i fs hk
    rw[Option.map_eq_some_iff]at h
    obtain⟨ks,hp,rfl⟩:=h
    exact ht.eq ks hp
  · rename_i e hk;injection h with h;subst h;exact⟨e,ht.K3 hk⟩
  · rename_i e hk;injection h with h;subst h;exact⟨e,ht.eQ hk⟩
  · rename_i hk;injection h with h;subst h;exact ht.NJ hk
  · rename_i hk;injection h with h;subst h;exact ht.Cz hk
  · cases h
theorem zm{t:TypeId}{ti:TI}(ht:TF P t ti){k:EK}(hk:A7 ti=some k){x y:AV}{xv yv:Value}(rx:RV ρ ls x xv)(ry:RV ρ ls y yv){b:Bool}(h:jW k x y=some b):
    (Op.equal t xv yv).run P w=.ok b w∧iD xv=true∧iD yv=true∧(∀cs cs',xv=.agg cs→yv=.agg cs'→P.eqGuardType P.depth t=false)∧(xv=.nilIface→k=.iface):=by
  have hs:=Ar ht hk
  cases k with
  | num=>simp[jW]at h
  | bool=>
    simp only[jW]at h
    split at h
    · injection h with h
      cases rx;cases ry
      exact⟨DQ hs h,rfl,rfl,by simp,by simp⟩
    · cases h
  | agg ks=>
    simp only[jW]at h
    split at h
    · cases rx with
      | agg _ _ vs h1 r=>
        cases ry with
        | agg _ _ us h1' r'=>
          refine⟨hs.2 w ρ ls _ _ vs us b ⟨by simpa using h1,fun i x hx=>by rw[b7];exact r i x hx⟩ ⟨by simpa using h1',fun i x hx=>by rw[b7];exact r' i x hx⟩ h,rfl,rfl,fun _ _ _ _=>hs.1,by simp⟩
    · cases h
  | nilp=>
    obtain⟨e,hs⟩:=hs
    refine⟨Ed rx ry h hs,?_,?_,?_,?_⟩<;>cases rx<;>cases ry<;>simp[jW,vH]at h<;>simp[iD]
  | nils=>
    obtain⟨e,hs⟩:=hs
    refine⟨Es rx ry h hs,?_,?_,?_,?_⟩<;>rcases pj rx ry h with⟨rfl,rfl,rfl⟩|⟨a,n,c,rfl,rfl,rfl⟩|⟨a,n,c,rfl,rfl,rfl⟩<;>simp[iD]
  | nilf=>
    obtain⟨u,v,z,hs⟩:=hs
    refine⟨D8 rx ry h hs,?_,?_,?_,?_⟩<;>cases rx<;>cases ry<;>simp[jW,vE]at h<;>simp[iD]
  | iface=>
    obtain⟨ms,hs⟩:=hs
    have hx:x=.opq xv:=by cases rx<;>simp[jW]at h<;>rfl
    subst hx
    have hy:y=.opq yv:=by cases ry<;>first|rfl|(simp[jW]at h;done)|(cases xv<;>simp[jW]at h)
    subst hy
    refine⟨EC hs h,?_,?_,?_,fun _=>rfl⟩<;>cases xv<;>cases yv<;>simp[jW]at h<;>simp[iD]
theorem Kb{op:BinOp}{t:TypeId}{ti:TI}(ht:TF P t ti){k:EK}(hk:A7 ti=some k){X Y:Operand}(hc:k=.iface→(Region.isConst X || Region.isConst Y)=true)
    {x y:AV} {xv yv:Value} (rx:RV ρ ls x xv) (ry:RV ρ ls y yv) {v:AV} (h:bU op k x y=some v):
    ∃cv,(do eqGuard op t X Y xv yv;binOp op t xv yv:Sem Value).run P w=.ok cv w∧RV ρ ls v cv:=by
  unfold bU at h
  split at h
  · rename_i kk m kk' n
    cases rx;cases ry
    have hg:(eqGuard op t X Y (.int kk m) (.int kk' n)).run P w=.ok () w:=jh (by simp) (by simp)
    simp only[Sem.run_bind,hg,Result.andThen_ok]
    split at h
    · split at h
      · rename_i h0
        injection h with h
        subst h
        exact⟨_,by simp[binOp,Op.shift,Int.not_lt.2 h0];rfl,by constructor⟩
      · cases h
    · split at h
      · rename_i h0
        injection h with h
        subst h
        exact⟨_,by simp[binOp,Op.shift,Int.not_lt.2 h0];rfl,by constructor⟩
      · cases h
    · split at h
      · rename_i h1 h2 hkk
        subst hkk
        exact Bc (fun e=>h1 e) (fun e=>h2 e) t h
      · cases h
  · rename_i m n
    cases rx;cases ry
    have hg:(eqGuard op t X Y (.string m) (.string n)).run P w=.ok () w:=jh (by simp) (by simp)
    simp only[Sem.run_bind,hg,Result.andThen_ok]
    split at h
    · split at h
      · cases h
      · rename_i h0
        injection h with h
        subst h
        have hm:IntKind.i64.max=9223372036854775807:=by decide
        exact⟨.string (m++n),by simp[binOp,Op.stringOp];omega,.str _ _⟩
    · injection h with h;subst h
      exact⟨_,by simp[binOp,Op.stringOp];rfl,by constructor⟩
    · injection h with h;subst h
      exact⟨_,by simp[binOp,Op.stringOp];rfl,by constructor⟩
    · cases h
  · split at h
    · cases he:jW k x y with
      | none=>simp[he]at h
      | some b=>
        simp[he]at h
        subst h
        obtain⟨h1,h2,h3,h4,h5⟩:=zm (w:=w) ht hk rx ry he
        have hg:(eqGuard .eql t X Y xv yv).run P w=.ok () w:=jh h4 (fun e _=>hc (h5 e))
        exact⟨.bool b,by simp only[Sem.run_bind,hg,Result.andThen_ok,binOp_eql h2 h3 h1],.bool _ _⟩
    · cases he:jW k x y with
      | none=>simp[he]at h
      | some b=>
        simp[he]at h
        subst h
        obtain⟨h1,h2,h3,h4,h5⟩:=zm (w:=w) ht hk rx ry he
        have hg:(eqGuard .neq t X Y xv yv).run P w=.ok () w:=jh h4 (fun e _=>hc (h5 e))
        exact⟨.bool !b,by simp only[Sem.run_bind,hg,Result.andThen_ok,binOp_neq h2 h3 h1],.bool _ _⟩
    · cases h
theorem Ph{op:UnOp}{x:AV}{xv:Value}(rx:RV ρ ls x xv){v:AV}(h:Lh op x=some v):∃cv,(Op.unary op xv).run P w=.ok cv w∧RV ρ ls v cv:=by
  unfold Lh at h
  split at h
  · cases rx;injection h with h;subst h;exact⟨_,rfl,.bool _ _⟩
  · cases rx;injection h with h;subst h;exact⟨_,rfl,.int _ _ _⟩
  · cases h
theorem iG(mem:RH ρ ls s.loc s.heap w){x:AV}{xv:Value}(r:RV ρ ls x xv){sz:Nat}{cs:List AV}(h:s.bl sz x=some cs){n:Nat}(hn:lenOf x=some n):
    ∃(A:Option Addr) (cap:Nat) (vals:List Value),xv=.slice A n cap∧vals.length=n*sz∧eB ρ ls cs vals∧n≤cap∧(n≠0→A.isSome)∧
      ∀ad,A=some ad→∀(j:Nat) (u:Value),vals[j]? = some u→w.cell? (ad.add j)=some u:=by
  cases r with
  | nils=>
    simp only[St.bl,Option.some.injEq]at h
    simp only[lenOf,Option.some.injEq]at hn
    subst h hn
    exact⟨none,0,[],rfl,by simp,⟨rfl,fun i x hx=>by simp at hx⟩,Nat.le_refl _,by simp,by simp⟩
  | vs _ β sz' ex xs c o cap' f h1 h2 h3 h4 r=>
    simp only[St.bl]at h
    simp only[lenOf,Option.some.injEq]at hn
    subst hn
    split at h
    · rename_i hsz
      injection h with h
      subst h hsz
      have flat:∀(xs:List (List AV)),(∀l∈xs,l.length=sz)→∀k x,xs.flatten[k]? = some x→∃l,xs[k / sz]? = some l∧l[k % sz]? = some x∧k / sz<xs.length∧0<sz:=by
        intro xs
        induction xs with
        | nil=>intro _ k x hx;simp at hx
        | cons l r ih=>
          intro hl k x hx
          have hl0:=hl l (by simp)
          rw[List.flatten_cons]at hx
          by_cases hk:k<l.length
          · rw[List.getElem?_append_left hk]at hx
            refine⟨l,?_,?_,?_,by omega⟩
            · rw[Nat.div_eq_of_lt (by omega)];rfl
            · rw[Nat.mod_eq_of_lt (by omega)];exact hx
            · rw[Nat.div_eq_of_lt (by omega)];simp
          · rw[List.getElem?_append_right (by omega)]at hx
            obtain⟨l',e1,e2,e3,e4⟩:=ih (fun l h=>hl l (by simp[h])) _ x hx
            have e:k=(k-sz)+sz:=by omega
            have ed:k / sz=(k-sz) / sz+1:=by rw[e,Nat.add_div_right _ e4];simp
            have em:k % sz=(k-sz) % sz:=by rw[e,Nat.add_mod_right];simp
            rw[hl0]at e1 e2 e3
            refine⟨l',?_,?_,?_,e4⟩
            · rw[ed];simpa using e1
            · rw[em];exact e2
            · rw[ed];simp;exact e3
      have hlen:xs.flatten.length=xs.length*sz:=by
        have:∀(ys:List (List AV)),(∀l∈ys,l.length=sz)→ys.flatten.length=ys.length*sz:=by
          intro ys
          induction ys with
          | nil=>intro _;simp
          | cons l r ih=>intro hl;rw[List.flatten_cons,List.length_append,ih (fun l h=>hl l (by simp[h])),hl l (by simp),List.length_cons,Nat.succ_mul];omega
        exact this xs (fun l hl=>by obtain⟨i,hi⟩:=List.mem_iff_getElem?.1 hl;exact h3 i l hi)
      have hmem:∀l∈xs,l.length=sz:=fun l hl=>by obtain⟨i,hi⟩:=List.mem_iff_getElem?.1 hl;exact h3 i l hi
      refine⟨_,cap',(List.range (xs.length*sz)).map fun k=>f (k / sz) (k % sz),rfl,by simp,⟨by simp[hlen],fun k x hx=>?_⟩,h1,by simp,?_⟩
      · have hk:=aK hx
        obtain⟨l,e1,e2,_,_⟩:=flat xs hmem k x hx
        have:=r _ l e1 _ x e2
        rw[hlen]at hk
        simp[hk]
        exact this.mono (.refl _) (.nil _)
      · intro ad had k u hu
        injection had with had
        subst had
        have hk:k<xs.length*sz:=by have:=aK hu;simpa using this
        simp[hk]at hu
        subst hu
        have hx:xs.flatten[k]? = some (xs.flatten[k]'(by rw[hlen];exact hk)):=List.getElem?_eq_getElem _
        obtain⟨l,e1,e2,e3,e4⟩:=flat xs hmem k _ hx
        obtain⟨arr,i1,i2⟩:=h4 _ l e1 _ _ e2
        obtain⟨T,fr,i3⟩:=mem.im β c arr i1
        rw[addr_add,cell_of i3,←i2,Nat.div_add_mod']
    · cases h
  | vs0 _ β sz' ex ad cap' h2=>
    simp only[St.bl]at h
    simp only[lenOf,Option.some.injEq]at hn
    subst hn
    split at h
    · injection h with h
      subst h
      exact⟨some ad,cap',[],rfl,by simp,⟨rfl,fun i x hx=>by simp at hx⟩,Nat.zero_le _,by simp,by simp⟩
    · cases h
  | vsn _ β sz' ex=>
    simp only[St.bl]at h
    simp only[lenOf,Option.some.injEq]at hn
    subst hn
    split at h
    · injection h with h
      subst h
      exact⟨none,0,[],rfl,by simp,⟨rfl,fun i x hx=>by simp at hx⟩,Nat.zero_le _,by simp,by simp⟩
    · cases h
  | opq _ v=>
    simp only[St.bl]at h
    split at h<;>try (cases h;done)
    all_goals (rename_i he;try (cases he;done))
    injection he with he
    subst he
    injection h with h
    subst h
    simp only[lenOf,Option.some.injEq]at hn
    subst hn
    exact⟨some _,_,[],rfl,by simp,⟨rfl,fun i x hx=>by simp at hx⟩,Nat.zero_le _,by simp,by simp⟩
  | gs _ b g off len cap sz' ex c o n' cap' hm h1 h2 h3 h4=>
    simp only[St.bl]at h
    simp only[lenOf,Option.some.injEq]at hn
    subst hn
    split at h
    · rename_i hsz
      subst hsz
      cases hb:bA s.heap b with
      | none=>simp[hb]at h
      | some e=>
        simp only[hb,Option.bind_some]at h
        split at h
        · rename_i hg
          have hcell:s.cells (.gp b g off) (len*sz)=some cs:=by simp[St.cells,hb,hg,h]
          obtain⟨c',o',vals,e1,e2,e3,e4⟩:=jP mem (RV.gp ls b g off c o n' hm) hcell
          injection e1 with e1
          injection e1 with e1
          injection e1 with e1 e1'
          subst e1 e1'
          refine⟨_,cap',vals,rfl,e2,e3,by omega,by simp,?_⟩
          intro ad had j u hu
          injection had with had
          subst had
          rw[addr_add];exact e4 j u hu
        · cases h
    · cases h
  | gs0 _ b g off sz' ex c o n' ad hm=>
    simp only[lenOf,Option.some.injEq]at hn
    subst hn
    simp only[St.bl]at h
    split at h
    · cases hb:bA s.heap b with
      | none=>simp[hb]at h
      | some e=>
        simp only[hb,Option.bind_some]at h
        split at h
        · obtain⟨_,h2,_⟩:=hU h
          have:cs=[]:=List.eq_nil_of_length_eq_zero (by simpa using h2)
          subst this
          exact⟨some ad,0,[],rfl,by simp,⟨rfl,fun i x hx=>by simp at hx⟩,Nat.le_refl _,by simp,by simp⟩
        · cases h
    · cases h
  | _=>simp[St.bl]at h
end
end Go.AM
