import Derived.Test.YtolciaflplefcaaGreatAmG0
set_option linter.unusedVariables false
set_option linter.unusedSimpArgs false
open List renaming getElem?_append_right→Aaa,getElem?_eq_getElem→Aab,getD_eq_getElem?_getD→Aac,getElem?_append_left→Aad,getElem?_drop→Aae,getElem?_take→Aag,getElem?_set_self→Aai,getElem?_map→Aaj,getElem?_set_ne→Aal,length_cons→Aam,mem_iff_getElem?→Aan,length_append→Aap,append_assoc→Aar,flatten_cons→Aas,length_take→Aat
open Option renaming bind_some→Aaf
open Nat renaming le_refl→Aah,add_assoc→Aak,zero_le→Aao,div_eq_of_lt→Aau,min_eq_left→Aav,lt_or_ge→Aax
open Bool renaming false_eq_true→Aaq,not_true→Aaw
open Int renaming not_lt→Aay
namespace Go.AM
theorem aL{α:Type}{l:List α}{i:Nat}{x:α}(h:l[i]? = some x):i<l.length:=by
 rcases Aax i l.length with h'|h'
 ·exact h'
 ·simp[List.getElem?_eq_none h']at h
theorem pn{α:Type}{l:Array α}{i:Nat}{x:α}(h:l[i]? = some x):i<l.size:=by
 rcases Aax i l.size with h'|h'
 ·exact h'
 ·simp[Array.getElem?_eq_none h']at h
theorem cell_of{w:World}{c o:Nat}{arr T fr}(h:w.heap[c]? = some (Obj.cells arr T fr)):w.cell? ⟨c,o,none⟩=arr[o]?:=by
 simp[World.cell?,h]
theorem kO(c o n:Nat):(Addr.add ⟨c,o,none⟩ n)=⟨c,o+n,none⟩:=by
 unfold Addr.add;split<;>simp_all
theorem Jp{w:World}{c o:Nat}{arr T fr}(h:w.heap[c]? = some (Obj.cells arr T fr))(u:kH arr fr)(ho:o<arr.size):w.frozen? ⟨c,o,none⟩=false:=by
 obtain⟨lo,hi⟩:=fr;simp only[World.frozen?,h];unfold kH at u;simp at u ⊢;omega
def jD(arr:Array Value)(o:Nat):List Value→Array Value
 | []=>arr
 | v::r=>jD (arr.setIfInBounds o v) (o+1) r
theorem jz(arr:Array Value)(o:Nat)(vs:List Value):(jD arr o vs).size=arr.size:=by
 induction vs generalizing arr o with
 | nil=>rfl
 | cons v r ih=>simp[jD,ih]
theorem yD(vs:List Value):∀(arr:Array Value) (o i:Nat),o+vs.length≤arr.size→
 (jD arr o vs)[i]? = if o≤i∧i<o+vs.length then vs[i-o]? else arr[i]?:=by
 induction vs with
 | nil=>intro arr o i h;simp[jD];omega
 | cons v r ih=>
  intro arr o i h;simp only[Aam]at h;rw[jD,ih _ _ _ (by simp;omega)];by_cases h1:o=i
  ·subst h1;rw[if_neg (by omega),if_pos (by simp),Nat.sub_self,Array.getElem?_setIfInBounds_self_of_lt (by omega)];rfl
  ·by_cases h2:o+1≤i∧i<o+1+r.length
   ·rw[if_pos h2,if_pos (by simp;omega)];obtain⟨d,rfl⟩:∃d,i=o+1+d:=⟨i-o-1,by omega⟩
    rw[show o+1+d-o=d+1 from by omega,show o+1+d-(o+1)=d from by omega];simp
   ·rw[if_neg h2,if_neg (by simp;omega)];rw[Array.getElem?_setIfInBounds_ne h1]
structure M1 (w:World) (c:Nat) (x:Obj) (w':World):Prop where
 sz:w'.heap.size=w.heap.size
 ne:∀(c':Nat),c'≠c→w'.heap[c']? = w.heap[c']?
 eq:w'.heap[c]? = some x
 os:w'.os=w.os
 out:w'.output=w.output
structure uq (w:World) (x:Obj) (w':World):Prop where
 sz:w'.heap.size=w.heap.size+1
 old:∀(c:Nat),c<w.heap.size→w'.heap[c]? = w.heap[c]?
 new:w'.heap[w.heap.size]? = some x
 os:w'.os=w.os
 out:w'.output=w.output
theorem uq.push(w:World)(x:Obj):uq w x { w with heap:=w.heap.push x }:=
 ⟨by simp,fun c h=>by simp[Array.getElem?_push,Nat.ne_of_lt h],by simp,rfl,rfl⟩
theorem DL{w:World}{c o:Nat}{arr T fr}(h:w.heap[c]? = some (Obj.cells arr T fr))(v:Value):
 M1 w c (Obj.cells (arr.setIfInBounds o v) T fr) (w.setCell ⟨c,o,none⟩ v):=by
 have hlt:=pn h;refine⟨by simp[World.setCell],fun c' hc=>?_,?_,rfl,rfl⟩
 ·simp[World.setCell,Array.getElem?_modify,Ne.symm hc]
 ·simp[World.setCell,Array.getElem?_modify,h]
theorem nU{P:Program}(c T:Nat)(fr:Nat×Nat):∀(vs:List Value) (o i:Nat) (w:World) (arr:Array Value),
 w.heap[c]? = some (Obj.cells arr T fr)→kH arr fr→o+i+vs.length≤arr.size→(∀v∈vs,v.oneCell'=true)→
 ∃w',(storeCells ⟨c,o,none⟩ vs i).run P w=.ok () w'∧M1 w c (Obj.cells (jD arr (o+i) vs) T fr) w':=by
 intro vs
 induction vs with
 | nil=>intro o i w arr h _ _ _;exact⟨w,by simp[storeCells],rfl,fun _ _=>rfl,h,rfl,rfl⟩
 | cons v r ih=>
  intro o i w arr h u hl hv;simp only[Aam]at hl;have hs:=DL (o:=o+i) h v;obtain⟨w',e,hb⟩:=ih o (i+1) (w.setCell ⟨c,o+i,none⟩ v) (arr.setIfInBounds (o+i) v) hs.eq (by unfold kH at *;simpa using u) (by simp;omega) (fun x hx=>hv x (by simp[hx]));refine⟨w',?_,?_⟩
  ·have hst:(store (Addr.add ⟨c,o,none⟩ i) v).run P w=.ok () (w.setCell ⟨c,o+i,none⟩ v):=by
    rw[kO,run_store P w _ v .plain (hv v (by simp)),cell_of h];rw[Array.getElem?_eq_getElem (by omega)];simp[Jp h u (show o+i<arr.size by omega)]
   simp only[storeCells,Sem.run_bind,hst,Result.andThen_ok,e]
  ·refine⟨hb.sz.trans hs.sz,fun c' hc=>(hb.ne c' hc).trans (hs.ne c' hc),?_,hb.os.trans hs.os,hb.out.trans hs.out⟩;rw[hb.eq,jD,show o+(i+1)=o+i+1 from by omega]
theorem rM{l:List AV}{off n:Nat}{cs:List AV}(h:sub l off n=some cs):off+n≤l.length∧cs.length=n∧∀j,j<n→cs[j]? = l[off+j]?:=by
 unfold sub at h;split at h
 ·rename_i hle;injection h with h
  subst h;refine⟨hle,by simp;omega,fun j hj=>?_⟩;rw[Aag,if_pos hj,Aae]
 ·cases h
theorem qk{l cs:List AV}{off:Nat}(h:off+cs.length≤l.length):(c8 l off cs).length=l.length:=by
 simp[c8];omega
theorem KV{l cs:List AV}{off:Nat}(h:off+cs.length≤l.length)(i:Nat):
 (c8 l off cs)[i]? = if off≤i∧i<off+cs.length then cs[i-off]? else l[i]?:=by
 unfold c8;by_cases h1:i<off
 ·rw[if_neg (by omega),Aar,Aad (by simp;omega),Aag,if_pos h1]
 ·by_cases h2:i<off+cs.length
  ·rw[if_pos (by omega),Aar,Aaa (by simp;omega)];simp only[Aat];rw[Aav (by omega),Aad (by omega)]
  ·rw[if_neg (by omega),Aaa (by simp;omega)];simp only[Aap,Aat];rw[Aav (by omega),Aae]
   congr 1;omega
theorem pr.c8{ρ ls arr o l cs off}{vs:List Value}(h:pr ρ ls arr o l)(hle:off+cs.length≤l.length)(hsz:o+l.length≤arr.size)(hv:kX ρ ls cs vs):
 pr ρ ls (jD arr (o+off) vs) o (AM.c8 l off cs):=by
 intro i x hx;rw[KV hle]at hx;rw[yD vs arr (o+off) (o+i) (by have:=hv.1;omega)];split at hx
 ·rename_i hi;have hlt:=aL hx;have hlen:=hv.1;rw[if_pos (by omega),show o+i-(o+off)=i-off from by omega];have hy:=hv.2 _ x hx;rw[Aab (by omega)];refine⟨_,rfl,?_⟩;rw[Aac,Aab (by omega)]at hy;exact hy
 ·rename_i hi;obtain⟨y,hy,r⟩:=h i x hx;have hlen:=hv.1;rw[if_neg (by omega)];exact⟨y,hy,r⟩
theorem RH.TG{ρ ls L h w w' i l c arr T fr arr' l'}(r:RH ρ ls L h w)(hi:L[i]? = some l)(hc:ls[i]? = some c)
 (b:M1 w c (Obj.cells arr' T fr) w') (hsz:arr'.size=arr.size) (u:kH arr fr) (hl':l'.length=arr'.size) (hlies:pr ρ ls arr' 0 l'):
 RH ρ ls (L.set i l') h w'∧ua ρ ls h w ρ ls h w':=by
 have hil:=aL hi;constructor
 ·refine⟨?_,?_,by simpa using r.len,r.nod,r.hh,r.hl,?_,r.iml,r.imh,?_⟩
  ·intro b' g cs hb;obtain⟨c',o,n,arr1,T1,fr1,e1,e2,e3,e4,e5,e6⟩:=r.hp b' g cs hb;refine⟨c',o,n,arr1,T1,fr1,e1,?_,e3,e4,e5,e6⟩;rw[b.ne c' (fun e=>r.hl _ _ _ _ _ _ i hb e1 (e▸hc))];exact e2
  ·intro j cs hj;by_cases hij:i=j
   ·subst hij;rw[Aai hil]at hj;injection hj with hj
    subst hj;exact⟨c,arr',T,fr,hc,b.eq,by unfold kH at *;omega,hl'.symm,hlies⟩
   ·rw[Aal hij]at hj;obtain⟨c',arr1,T1,fr1,e1,e2,e3,e4,e5⟩:=r.lp j cs hj;refine⟨c',arr1,T1,fr1,e1,?_,e3,e4,e5⟩;rw[b.ne c' (fun e=>hij (r.nod i j c hc (e▸e1)))];exact e2
  ·intro β c' arr1 hm;obtain⟨T1,fr1,e⟩:=r.im β c' arr1 hm;exact⟨T1,fr1,by rw[b.ne c' (fun e=>r.iml β c' arr1 i hm (e▸hc))];exact e⟩
  ·intro b' g c' o n hm;obtain⟨e1,e2⟩:=r.dom b' g c' o n hm;exact⟨by rw[b.sz];exact e1,e2⟩
 ·refine⟨.refl _,.refl _,by rw[b.sz];exact Aah _,fun c' _ ht=>b.ne c' (fun e=>ht (.inl ⟨i,e▸hc⟩)),fun _ _ _ _ _ _ h m=>.inr ⟨_,_,_,_,h,m⟩,fun _ _ h=>.inr h,fun _ _ _ _ e=>e,Aah _,b.os,b.out⟩
theorem RH.IH{ρ ls L h w w' b g l c o n arr T fr arr' l'}(r:RH ρ ls L h w)(hb:h[b]? = some (some (g,l)))(hc:ρ.m b g=some (c,o,n))
 (sb:M1 w c (Obj.cells arr' T fr) w') (hsz:arr'.size=arr.size) (hn:arr.size=n) (u:kH arr fr) (hl':o+l'.length≤n) (hlies:pr ρ [] arr' o l'):
 RH ρ ls L (h.set b (some (g,l'))) w'∧ua ρ ls h w ρ ls (h.set b (some (g,l'))) w':=by
 have hbl:=aL hb;have look:∀{b' g' cs},(h.set b (some (g,l')))[b']? = some (some (g',cs))→∃cs',h[b']? = some (some (g',cs'))∧(b'≠b→cs'=cs)∧(b'=b→g'=g∧cs=l'):=by
  intro b' g' cs e;by_cases hbb:b=b'
  ·subst hbb;rw[Aai hbl]at e;injection e with e
   injection e with e
   injection e with e1 e2
   subst e1 e2;exact⟨l,hb,fun h=>absurd rfl h,fun _=>⟨rfl,rfl⟩⟩
  ·rw[Aal hbb]at e;exact⟨cs,e,fun _=>rfl,fun h=>absurd h.symm hbb⟩
 constructor
 ·refine⟨?_,?_,r.len,r.nod,?_,?_,?_,r.iml,?_,?_⟩
  ·intro b' g' cs hb';obtain⟨cs',e0,hne,heq⟩:=look hb';by_cases hbb:b'=b
   ·obtain⟨rfl,rfl⟩:=heq hbb;subst hbb;exact⟨c,o,n,arr',T,fr,hc,sb.eq,by omega,by unfold kH at *;omega,hl',hlies⟩
   ·obtain rfl:=hne hbb;obtain⟨c',o',n',arr1,T1,fr1,e1,e2,e3,e4,e5,e6⟩:=r.hp b' g' cs' e0;refine⟨c',o',n',arr1,T1,fr1,e1,?_,e3,e4,e5,e6⟩;rw[sb.ne c' (fun e=>hbb (r.hh _ _ _ _ _ _ c' _ _ _ _ e0 hb e1 (by rw[e];exact hc)))];exact e2
  ·intro j cs hj;obtain⟨c',arr1,T1,fr1,e1,e2,e3,e4,e5⟩:=r.lp j cs hj;refine⟨c',arr1,T1,fr1,e1,?_,e3,e4,e5⟩;rw[sb.ne c' (fun e=>r.hl _ _ _ _ _ _ j hb hc (e▸e1))];exact e2
  ·intro b1 g1 cs1 b2 g2 cs2 c' o1 n1 o2 n2 h1 h2 m1 m2;obtain⟨_,e1,_⟩:=look h1;obtain⟨_,e2,_⟩:=look h2;exact r.hh _ _ _ _ _ _ _ _ _ _ _ e1 e2 m1 m2
  ·intro b1 g1 cs1 c' o1 n1 i h1 m1;obtain⟨_,e1,_⟩:=look h1;exact r.hl _ _ _ _ _ _ i e1 m1
  ·intro β c' arr1 hm;obtain⟨T1,fr1,e⟩:=r.im β c' arr1 hm;exact⟨T1,fr1,by rw[sb.ne c' (fun e=>r.imh β c' arr1 b g l o n hm hb (by rw[e];exact hc))];exact e⟩
  ·intro β c' arr1 b1 g1 cs1 o1 n1 hm h1;obtain⟨_,e1,_⟩:=look h1;exact r.imh β c' arr1 b1 g1 _ o1 n1 hm e1
  ·intro b' g' c' o' n' hm;obtain⟨e1,e2,e3⟩:=r.dom b' g' c' o' n' hm;refine⟨by rw[sb.sz];exact e1,by simpa using e2,fun g1 cs1 h1=>?_⟩;obtain⟨cs2,e4,_,_⟩:=look h1;exact e3 g1 cs2 e4
 ·refine⟨.refl _,.refl _,by rw[sb.sz];exact Aah _,fun c' _ ht=>sb.ne c' (fun e=>ht (.inr ⟨b,g,l,o,n,hb,by rw[e];exact hc⟩)),?_,fun _ _ h=>.inr h,fun _ _ _ _ e=>e,by simp,sb.os,sb.out⟩;intro b' g' cs' c' o' n' h1 m1;obtain⟨_,e1,_⟩:=look h1;exact .inr ⟨g',_,o',n',e1,m1⟩
theorem RH.TY{ρ ls L h w w' arr T cs}(r:RH ρ ls L h w)(nb:uq w (Obj.cells arr T (0,0)) w')(hl:cs.length=arr.size)(hlies:pr ρ ls arr 0 cs):
 RH ρ (ls++[w.heap.size]) (L++[cs]) h w'∧ua ρ ls h w ρ (ls++[w.heap.size]) h w':=by
 have inl:∀{i c:Nat},ls[i]? = some c→c<w.heap.size:=fun{i c} e=>by
  have hi:=aL e;rw[r.len]at hi;obtain⟨c',arr1,T1,fr1,e1,e2,_⟩:=r.lp i _ (Aab hi);rw[e]at e1;injection e1 with e1
  subst e1;exact pn e2
 have snoc:∀{i c:Nat},(ls++[w.heap.size])[i]? = some c→ls[i]? = some c∨(i=ls.length∧c=w.heap.size):=fun{i c} e=>by
  by_cases hi:i<ls.length
  ·rw[Aad hi]at e;exact .inl e
  ·rw[Aaa (by omega)]at e;have h0:i-ls.length=0:=by have:=aL e;simp at this;omega
   rw[h0]at e;simp at e;exact .inr ⟨by omega,e.symm⟩
 have keep:∀{c:Nat} {x:Obj},w.heap[c]? = some x→w'.heap[c]? = some x:=fun e=>by rw[nb.old _ (pn e)];exact e
 constructor
 ·refine⟨?_,?_,by simp[r.len],?_,r.hh,?_,?_,?_,r.imh,?_⟩
  ·intro b g cs' hb;obtain⟨c',o,n,arr1,T1,fr1,e1,e2,rest⟩:=r.hp b g cs' hb;exact⟨c',o,n,arr1,T1,fr1,e1,keep e2,rest⟩
  ·intro i cs' hi;by_cases hlt:i<L.length
   ·rw[Aad hlt]at hi;obtain⟨c',arr1,T1,fr1,e1,e2,e3,e4,e5⟩:=r.lp i cs' hi;exact⟨c',arr1,T1,fr1,Ext.snoc _ _ i c' e1,keep e2,e3,e4,fun j x hx=>let ⟨y,hy,ry⟩:=e5 j x hx;⟨y,hy,ry.mono (.refl _) (Ext.snoc _ _)⟩⟩
   ·rw[Aaa (by omega)]at hi;have h0:i-L.length=0:=by have:=aL hi;simp at this;omega
    rw[h0]at hi;simp at hi;subst hi;refine⟨w.heap.size,arr,T,(0,0),?_,nb.new,.inl (by simp),hl.symm,fun j x hx=>let ⟨y,hy,ry⟩:=hlies j x hx;⟨y,hy,ry.mono (.refl _) (Ext.snoc _ _)⟩⟩;rw[Aaa (by rw[r.len];omega),r.len,h0];rfl
  ·intro i j c h1 h2;rcases snoc h1 with h1|⟨h1,rfl⟩<;>rcases snoc h2 with h2|⟨h2,h2'⟩
   ·exact r.nod i j c h1 h2
   ·exact absurd (inl h1) (by omega)
   ·exact absurd (inl h2) (by omega)
   ·omega
  ·intro b g cs' c o n i hb hm hi;rcases snoc hi with hi|⟨_,rfl⟩
   ·exact r.hl b g cs' c o n i hb hm hi
   ·have:=(r.dom b g _ o n hm).1;omega
  ·intro β c arr1 hm;obtain⟨T1,fr1,e⟩:=r.im β c arr1 hm;exact⟨T1,fr1,keep e⟩
  ·intro β c arr1 i hm hi;rcases snoc hi with hi|⟨_,rfl⟩
   ·exact r.iml β c arr1 i hm hi
   ·obtain⟨T1,fr1,e⟩:=r.im β _ arr1 hm;have:=pn e;omega
  ·intro b g c o n hm;obtain⟨e1,e2⟩:=r.dom b g c o n hm;exact⟨by rw[nb.sz];omega,e2⟩
 ·refine⟨.refl _,.snoc _ _,by rw[nb.sz];omega,fun c hc _=>nb.old c hc,fun _ _ _ _ _ _ h m=>.inr ⟨_,_,_,_,h,m⟩,?_,fun _ _ _ _ e=>e,Aah _,nb.os,nb.out⟩;intro i c t;rcases snoc t with t|⟨_,rfl⟩
  ·exact .inr t
  ·exact .inl (Aah _)
def j9.ins(ρ:j9)(b g:Nat)(x:Nat×Nat×Nat):j9:={ ρ with m:=fun b' g'=>if b'=b∧g'=g then some x else ρ.m b' g' }
theorem j9.Ln{ρ:j9}{b g:Nat}{x:Nat×Nat×Nat}(h:ρ.m b g=none):ρ.le (ρ.ins b g x):=
 ⟨fun b' g' y e=>by
  simp only[j9.ins];split
  ·rename_i hb;obtain⟨rfl,rfl⟩:=hb;rw[h]at e;cases e
  ·exact e,fun _ _ _ e=>e⟩
theorem j9.ml(ρ:j9)(b g:Nat)(x:Nat×Nat×Nat):(ρ.ins b g x).m b g=some x:=by simp[j9.ins]
theorem j9.DS{ρ:j9}{b g b' g':Nat}{x:Nat×Nat×Nat}(h:¬(b'=b∧g'=g)):(ρ.ins b g x).m b' g'=ρ.m b' g':=by simp[j9.ins,h]
theorem pr.mono{ρ ρ' ls arr o cs}(h:pr ρ ls arr o cs)(l:ρ.le ρ'):pr ρ' ls arr o cs:=
 fun i x hx=>let ⟨y,e,r⟩:=h i x hx;⟨y,e,r.mono l (.refl _)⟩
theorem RH.AX{ρ ls L h w w' arr T fr cs}(r:RH ρ ls L h w)(nb:uq w (Obj.cells arr T fr) w')(u:kH arr fr)(hl:cs.length≤arr.size)(hlies:pr ρ [] arr 0 cs):
 RH (ρ.ins h.length 0 (w.heap.size,0,arr.size)) ls L (h++[some (0,cs)]) w'∧ua ρ ls h w (ρ.ins h.length 0 (w.heap.size,0,arr.size)) ls (h++[some (0,cs)]) w':=by
 have hnone:ρ.m h.length 0=none:=by
  cases hm:ρ.m h.length 0 with
  | none=>rfl
  | some x=>
   obtain⟨c,o,n⟩:=x;have:=(r.dom _ _ _ _ _ hm).2.1;omega
 have hle:ρ.le (ρ.ins h.length 0 (w.heap.size,0,arr.size)):=j9.Ln hnone;have keep:∀{c:Nat} {x:Obj},w.heap[c]? = some x→w'.heap[c]? = some x:=fun e=>by rw[nb.old _ (pn e)];exact e
 have inl:∀{i c:Nat},ls[i]? = some c→c<w.heap.size:=fun{i c} e=>by
  have hi:=aL e;rw[r.len]at hi;obtain⟨c',arr1,T1,fr1,e1,e2,_⟩:=r.lp i _ (Aab hi);rw[e]at e1;injection e1 with e1
  subst e1;exact pn e2
 have look:∀{b:Nat} {g:Nat} {cs':List AV},(h++[some (0,cs)])[b]? = some (some (g,cs'))→(b<h.length∧h[b]? = some (some (g,cs')))∨(b=h.length∧g=0∧cs'=cs):=by
  intro b g cs' e;by_cases hb:b<h.length
  ·rw[Aad hb]at e;exact .inl ⟨hb,e⟩
  ·rw[Aaa (by omega)]at e;have h0:b-h.length=0:=by have:=aL e;simp at this;omega
   rw[h0]at e;simp at e;exact .inr ⟨by omega,e.1.symm,e.2.symm⟩
 have old:∀{b g:Nat} {x:Nat×Nat×Nat},b<h.length→(ρ.ins h.length 0 (w.heap.size,0,arr.size)).m b g=some x→ρ.m b g=some x:=by
  intro b g x hb e;rwa[j9.DS (by omega)]at e
 have newm:∀{c o n:Nat},(ρ.ins h.length 0 (w.heap.size,0,arr.size)).m h.length 0=some (c,o,n)→c=w.heap.size:=by
  intro c o n e;rw[j9.ml]at e;injection e with e
  injection e with e _
  exact e.symm
 have below:∀{b g c o n:Nat},ρ.m b g=some (c,o,n)→c<w.heap.size:=fun e=>(r.dom _ _ _ _ _ e).1;constructor
 ·refine⟨?_,?_,r.len,r.nod,?_,?_,?_,r.iml,?_,?_⟩
  ·intro b g cs' hb;rcases look hb with⟨hlt,e⟩|⟨rfl,rfl,rfl⟩
   ·obtain⟨c',o,n,arr1,T1,fr1,e1,e2,e3,e4,e5,e6⟩:=r.hp b g cs' e;exact⟨c',o,n,arr1,T1,fr1,hle.m _ _ _ e1,keep e2,e3,e4,e5,e6.mono hle⟩
   ·exact⟨w.heap.size,0,arr.size,arr,T,fr,j9.ml _ _ _ _,nb.new,rfl,u,by omega,hlies.mono hle⟩
  ·intro i cs' hi;obtain⟨c',arr1,T1,fr1,e1,e2,e3,e4,e5⟩:=r.lp i cs' hi;exact⟨c',arr1,T1,fr1,e1,keep e2,e3,e4,e5.mono hle⟩
  ·intro b g cs1 b' g' cs2 c o n o' n' h1 h2 m1 m2;rcases look h1 with⟨l1,e1⟩|⟨rfl,rfl,rfl⟩<;>rcases look h2 with⟨l2,e2⟩|⟨rfl,rfl,rfl⟩
   ·exact r.hh _ _ _ _ _ _ _ _ _ _ _ e1 e2 (old l1 m1) (old l2 m2)
   ·have:=below (old l1 m1);have:=newm m2;omega
   ·have:=below (old l2 m2);have:=newm m1;omega
   ·rfl
  ·intro b g cs' c o n i hb hm hi;rcases look hb with⟨l1,e1⟩|⟨rfl,rfl,rfl⟩
   ·exact r.hl _ _ _ _ _ _ i e1 (old l1 hm) hi
   ·have:=inl hi;have:=newm hm;omega
  ·intro β c arr1 hm;obtain⟨T1,fr1,e⟩:=r.im β c arr1 hm;exact⟨T1,fr1,keep e⟩
  ·intro β c arr1 b g cs' o n hm hb hx;rcases look hb with⟨l1,e1⟩|⟨rfl,rfl,rfl⟩
   ·exact r.imh β c arr1 b g cs' o n hm e1 (old l1 hx)
   ·obtain⟨T1,fr1,e⟩:=r.im β c arr1 hm;have:=pn e;have:=newm hx;omega
  ·intro b g c o n hm;by_cases hb:b=h.length∧g=0
   ·obtain⟨rfl,rfl⟩:=hb;have:=newm hm;exact⟨by rw[nb.sz];omega,by simp,fun _ _ _=>Aao _⟩
   ·rw[j9.DS hb]at hm;obtain⟨e1,e2,e3⟩:=r.dom b g c o n hm;refine⟨by rw[nb.sz];omega,by simp;omega,fun g1 cs1 h1=>?_⟩;rcases look h1 with⟨_,e4⟩|⟨rfl,_,_⟩
    ·exact e3 _ _ e4
    ·omega
 ·refine⟨hle,.refl _,by rw[nb.sz];omega,fun c hc _=>nb.old c hc,?_,fun _ _ h=>.inr h,fun _ _ _ _ e=>e,by simp,nb.os,nb.out⟩;intro b g cs' c o n hb hm;rcases look hb with⟨l1,e1⟩|⟨rfl,rfl,rfl⟩
  ·exact .inr ⟨g,cs',o,n,e1,old l1 hm⟩
  ·exact .inl (by have:=newm hm;omega)
theorem RH.K2{ρ ls L h w w' b g l c o n arr' T' fr' c' o' l'}(r:RH ρ ls L h w)(hb:h[b]? = some (some (g,l)))(hc:ρ.m b g=some (c,o,n))
 (hc':c'=c∧w'.heap.size=w.heap.size∨c'=w.heap.size∧w'.heap.size=w.heap.size+1)
 (hne:∀(x:Nat),x<w.heap.size→x≠c'→w'.heap[x]? = w.heap[x]?) (hnew:w'.heap[c']? = some (Obj.cells arr' T' fr'))
 (u:kH arr' fr') (hl':o'+l'.length≤arr'.size) (hlies:pr ρ [] arr' o' l') (eos:w'.os=w.os) (eout:w'.output=w.output):
 RH (ρ.ins b (g+1) (c',o',arr'.size)) ls L (h.set b (some (g+1,l'))) w'∧ua ρ ls h w (ρ.ins b (g+1) (c',o',arr'.size)) ls (h.set b (some (g+1,l'))) w':=by
 have hbl:=aL hb;have hnone:ρ.m b (g+1)=none:=by
  cases hm:ρ.m b (g+1)with
  | none=>rfl
  | some x=>
   obtain⟨c1,o1,n1⟩:=x;have:=(r.dom _ _ _ _ _ hm).2.2 _ _ hb;omega
 have hle:ρ.le (ρ.ins b (g+1) (c',o',arr'.size)):=j9.Ln hnone;have below:∀{b g c o n:Nat},ρ.m b g=some (c,o,n)→c<w.heap.size:=fun e=>(r.dom _ _ _ _ _ e).1;have hcl:=below hc;have hsz:w.heap.size≤w'.heap.size:=by omega
 have inl:∀{i x:Nat},ls[i]? = some x→x<w.heap.size∧x≠c':=fun{i x} e=>by
  have hi:=aL e;rw[r.len]at hi;obtain⟨c1,arr1,T1,fr1,e1,e2,_⟩:=r.lp i _ (Aab hi);rw[e]at e1;injection e1 with e1
  subst e1;have hlt:=pn e2;refine⟨hlt,fun hx=>?_⟩;rcases hc' with⟨h1,_⟩|⟨h1,_⟩
  ·exact r.hl _ _ _ _ _ _ i hb hc (by rw[←h1,←hx];exact e)
  ·omega
 have keep:∀{x:Nat} {y:Obj},x≠c'→w.heap[x]? = some y→w'.heap[x]? = some y:=fun hx e=>by rw[hne _ (pn e) hx];exact e
 have look:∀{b' g':Nat} {cs:List AV},(h.set b (some (g+1,l')))[b']? = some (some (g',cs))→(b'≠b∧h[b']? = some (some (g',cs)))∨(b'=b∧g'=g+1∧cs=l'):=by
  intro b' g' cs e;by_cases hbb:b=b'
  ·subst hbb;rw[Aai hbl]at e;injection e with e
   injection e with e
   injection e with e1 e2
   exact .inr ⟨rfl,e1.symm,e2.symm⟩
  ·rw[Aal hbb]at e;exact .inl ⟨fun h=>hbb h.symm,e⟩
 have old:∀{b' g':Nat} {x:Nat×Nat×Nat},b'≠b→(ρ.ins b (g+1) (c',o',arr'.size)).m b' g'=some x→ρ.m b' g'=some x:=by
  intro b' g' x hb e;rwa[j9.DS (by intro h;exact hb h.1)]at e
 have newm:∀{c1 o1 n1:Nat},(ρ.ins b (g+1) (c',o',arr'.size)).m b (g+1)=some (c1,o1,n1)→c1=c':=by
  intro c1 o1 n1 e;rw[j9.ml]at e;injection e with e
  injection e with e _
  exact e.symm
 have other:∀{b' g':Nat} {cs:List AV} {c1 o1 n1:Nat},b'≠b→h[b']? = some (some (g',cs))→ρ.m b' g'=some (c1,o1,n1)→c1≠c':=by
  intro b' g' cs c1 o1 n1 hbb e m e';rcases hc' with⟨h1,_⟩|⟨h1,_⟩
  ·exact hbb (r.hh _ _ _ _ _ _ c1 _ _ _ _ e hb m (by rw[e',h1];exact hc))
  ·have:=below m;omega
 constructor
 ·refine⟨?_,?_,r.len,r.nod,?_,?_,?_,r.iml,?_,?_⟩
  ·intro b' g' cs hb';rcases look hb' with⟨hbb,e⟩|⟨rfl,rfl,rfl⟩
   ·obtain⟨c1,o1,n1,arr1,T1,fr1,e1,e2,e3,e4,e5,e6⟩:=r.hp b' g' cs e;exact⟨c1,o1,n1,arr1,T1,fr1,hle.m _ _ _ e1,keep (other hbb e e1) e2,e3,e4,e5,e6.mono hle⟩
   ·exact⟨c',o',arr'.size,arr',T',fr',j9.ml _ _ _ _,hnew,rfl,u,hl',hlies.mono hle⟩
  ·intro i cs hi;obtain⟨c1,arr1,T1,fr1,e1,e2,e3,e4,e5⟩:=r.lp i cs hi;exact⟨c1,arr1,T1,fr1,e1,keep (inl e1).2 e2,e3,e4,e5.mono hle⟩
  ·intro b1 g1 cs1 b2 g2 cs2 c1 o1 n1 o2 n2 h1 h2 m1 m2;rcases look h1 with⟨l1,e1⟩|⟨rfl,rfl,rfl⟩<;>rcases look h2 with⟨l2,e2⟩|⟨rfl,rfl,rfl⟩
   ·exact r.hh _ _ _ _ _ _ _ _ _ _ _ e1 e2 (old l1 m1) (old l2 m2)
   ·exact absurd (newm m2) (other l1 e1 (old l1 m1))
   ·exact absurd (newm m1) (other l2 e2 (old l2 m2))
   ·rfl
  ·intro b1 g1 cs1 c1 o1 n1 i hb1 hm hi;rcases look hb1 with⟨l1,e1⟩|⟨rfl,rfl,rfl⟩
   ·exact r.hl _ _ _ _ _ _ i e1 (old l1 hm) hi
   ·exact(inl hi).2 (newm hm)
  ·intro β c1 arr1 hm;obtain⟨T1,fr1,e⟩:=r.im β c1 arr1 hm;refine⟨T1,fr1,keep (fun hx=>?_) e⟩;rcases hc' with⟨h1,_⟩|⟨h1,_⟩
   ·exact r.imh β c1 arr1 b g l o n hm hb (by rw[hx,h1];exact hc)
   ·have:=pn e;omega
  ·intro β c1 arr1 b1 g1 cs1 o1 n1 hm hb1 hx;rcases look hb1 with⟨l1,e1⟩|⟨rfl,rfl,rfl⟩
   ·exact r.imh β c1 arr1 b1 g1 cs1 o1 n1 hm e1 (old l1 hx)
   ·have hx':=newm hx;obtain⟨T1,fr1,e⟩:=r.im β c1 arr1 hm;rcases hc' with⟨h1,_⟩|⟨h1,_⟩
    ·exact r.imh β c1 arr1 b1 g l o n hm hb (by rw[hx',h1];exact hc)
    ·have:=pn e;omega
  ·intro b1 g1 c1 o1 n1 hm;by_cases hb1:b1=b∧g1=g+1
   ·obtain⟨rfl,rfl⟩:=hb1;have:=newm hm;exact⟨by omega,by simpa using hbl,fun g2 cs2 h2=>by
     rcases look h2 with⟨hne',_⟩|⟨_,rfl,_⟩
     ·exact absurd rfl hne'
     ·exact Aah _⟩
   ·rw[j9.DS hb1]at hm;obtain⟨e1,e2,e3⟩:=r.dom b1 g1 c1 o1 n1 hm;refine⟨by omega,by simpa using e2,fun g2 cs2 h2=>?_⟩;rcases look h2 with⟨_,e4⟩|⟨rfl,rfl,_⟩
    ·exact e3 _ _ e4
    ·have:=e3 _ _ hb;omega
 ·refine⟨hle,.refl _,hsz,fun x hx ht=>?_,?_,fun _ _ h=>.inr h,fun _ _ _ _ e=>e,by simp,eos,eout⟩
  ·by_cases hxc:x=c'
   ·rcases hc' with⟨h1,_⟩|⟨h1,_⟩
    ·exact absurd (.inr ⟨b,g,l,o,n,hb,by rw[hxc,h1];exact hc⟩) ht
    ·omega
   ·exact hne x hx hxc
  ·intro b1 g1 cs1 x o1 n1 hb1 hm;rcases look hb1 with⟨l1,e1⟩|⟨rfl,rfl,rfl⟩
   ·exact .inr ⟨g1,cs1,o1,n1,e1,old l1 hm⟩
   ·have hx':=newm hm;rcases hc' with⟨h1,_⟩|⟨h1,_⟩
    ·exact .inr ⟨g,l,o,n,hb,by rw[hx',h1];exact hc⟩
    ·exact .inl (by omega)
end Go.AM
namespace Go.AM
def vc:TypeDesc→TK
 | .bool=>.bool|.int k=>.int k|.string=>.str|.pointer e=>.ptr e|.slice e=>.slice e|.array n e=>.arr n e
 | .struct fs=>.strct (fs.toList.map fun f=>(f.offset,f.type))|.interface _=>.iface|.func _ _ _=>.fn|_=>.other
def Tn(P:Program)(t:TypeId):Option (TK×Nat×Nat×List AV×Bool):=
 (P.info? t).bind fun i=>(P.underlying t).bind fun d=>i.zero.map fun z=>
  (vc d,i.size,i.bytes,z.cells.toList.map BK,(z.cells.size == i.size) && z.cells.toList.all (·.oneCell'))
def AO(P:Program)(t:TypeId)(ks:List TK):Prop:=
 P.eqGuardType P.depth t=false∧∀(w:World) (ρ:j9) (ls:List Nat) (zas bs:List AV) (xs ys:Array Value) (r:Bool),
  kX ρ ls zas xs.toList→kX ρ ls bs ys.toList→uO ks zas bs=some r→(Op.equal t (.agg xs) (.agg ys)).run P w=.ok r w
def iO(P:Program)(Θ:ub):Prop:=∀t ti,Θ t=some ti→Tn P t=some (ti.kd,ti.size,ti.bytes,ti.zero,true)∧∀ks,ti.plainEq=some ks→AO P t ks
structure TF (P:Program) (t:TypeId) (ti:TI):Prop where
 info:∃i d z,P.info? t=some i∧P.underlying t=some d∧i.size=ti.size∧i.bytes=ti.bytes∧i.zero=some z∧vc d=ti.kd∧
  z.cells.toList.map BK=ti.zero∧z.cells.size=ti.size∧(∀v∈z.cells.toList,v.oneCell'=true)
 eq:∀ks,ti.plainEq=some ks→AO P t ks
theorem iO.tf{P Θ t ti}(h:iO P Θ)(e:Θ t=some ti):TF P t ti:=by
 obtain⟨h1,h2⟩:=h t ti e;refine⟨?_,h2⟩;unfold Tn at h1;cases hi:P.info? t with
 | none=>simp[hi]at h1
 | some i=>
  cases hd:P.underlying t with
  | none=>simp[hi,hd]at h1
  | some d=>
   cases hz:i.zero with
   | none=>simp[hi,hd,hz]at h1
   | some z=>
    simp only[hi,hd,hz,Aaf,Option.map_some,Option.some.injEq,Prod.mk.injEq,Bool.and_eq_true,beq_iff_eq,List.all_eq_true]at h1;obtain⟨a,b,c,d',e',f⟩:=h1;exact⟨i,d,z,rfl,rfl,b,c,hz,a,d',by omega,f⟩
section
variable {P:Program} {Γ:bG} {ρ:j9} {ls:List Nat} {s:St} {a:Act} {w:World}
theorem run_typeInfo{t:TypeId}{i:TypeInfo}(h:P.info? t=some i):(typeInfo t).run P w=.ok i w:=by simp[typeInfo,h]
theorem aS{t:TypeId}{d:TypeDesc}(h:P.underlying t=some d):(underlying t).run P w=.ok d w:=by simp[underlying,h]
theorem th{t:TypeId}{i:TypeInfo}(h:P.info? t=some i):(sizeOf t).run P w=.ok i.size w:=by simp[sizeOf,run_typeInfo h]
theorem pW{t:TypeId}{i:TypeInfo}{z:Value}(h:P.info? t=some i)(hz:i.zero=some z):(zeroValue t).run P w=.ok z w:=by simp[zeroValue,run_typeInfo h,hz]
theorem Fx(v:Value):RV ρ ls (BK v) v:=by
 unfold BK;split<;>first|exact .bool _ _|exact .int _ _ _|exact .str _ _|exact .nilp _|exact .nils _|exact .nilf _|exact .opq _ _
theorem fF(vs:Array Value)(i:Nat)(d:Value):vs.toList.getD i d=vs.getD i d:=by
 simp
theorem wy(vs:List Value):kX ρ ls (vs.map BK) vs:=by
 refine⟨by simp,fun i x hx=>?_⟩;rw[Aaj]at hx;cases hv:vs[i]? with
 | none=>simp[hv]at hx
 | some v=>
  simp[hv]at hx;subst hx;rw[Aac,hv];exact Fx v
theorem M3(v:Value):RV ρ ls (T5 v) v:=by
 unfold T5;split
 ·rename_i cs;have h:=wy (ρ:=ρ) (ls:=ls) cs.toList;exact .agg _ _ _ (by simp) (fun i x hx=>by rw[←fF];exact h.2 i x hx)
 ·exact Fx v
theorem bu(rel:Rel Γ ρ ls s a w)(x:Operand):RV ρ ls (s.eval Γ (lU x)) (a.eval x):=by
 cases x with
 | tmp t=>
  simp only[lU,St.eval,Act.eval];rw[Aac];cases h:s.env[t]? with
  | none=>exact .any _ _
  | some x=>exact rel.env t x h
 | const v=>exact M3 v
 | global g=>
  simp only[lU,St.eval,Act.eval];split
  ·rename_i cs hg;obtain⟨arr,h1,h2,_⟩:=rel.glob g cs hg;refine .ip _ false cs g 0 (fun j=>arr.getD (0+j) default) (fun j x hx=>?_) (fun j x hx=>?_)
   ·obtain⟨y,hy,_⟩:=h2 j x hx;exact⟨arr,h1,by simp at hy ⊢;simp[hy]⟩
   ·obtain⟨y,hy,r⟩:=h2 j x hx;simp at hy ⊢;simpa[hy]using r
  ·exact .any _ _
 | func f=>exact .fn _ f [] [] #[] #[] rfl rfl (fun i x h=>by simp at h) (fun i x h=>by simp at h)
theorem ql(rel:Rel Γ ρ ls s a w)(xs:List Operand):kX ρ ls ((xs.map lU).map (s.eval Γ)) (xs.map a.eval):=by
 refine⟨by simp,fun i x hx=>?_⟩;simp only[List.map_map,Aaj]at hx;cases h:xs[i]? with
 | none=>simp[h]at hx
 | some o=>
  simp[h]at hx;subst hx;rw[Aac,Aaj,h];exact bu rel o
theorem Cm{x:AV}{v:Value}{cs:List AV}(h:RV ρ ls x v)(hc:cellsOf x=some cs):kX ρ ls cs v.cells.toList:=by
 have one:∀{x:AV} {v:Value},RV ρ ls x v→kX ρ ls [x] #[v].toList:=fun r=>⟨rfl,fun i y hy=>by
  cases i with
  | zero=>simp at hy;subst hy;exact r
  | succ i=>simp at hy⟩
 have h':=h;cases h with
 | any=>simp[cellsOf]at hc
 | agg _ _ vs h1 r=>
  simp[cellsOf]at hc;subst hc;exact⟨by simp[Value.cells,h1],fun i x hx=>by simp only[Value.cells];rw[fF];exact r i x hx⟩
 | tup=>simp[cellsOf]at hc
 | opq v=>
  simp only[cellsOf]at hc;split at hc
  ·rename_i h1;injection hc with hc
   subst hc;have e:v.cells=#[v]:=by cases v<;>first|rfl|(simp[Value.oneCell']at h1)
   rw[e];exact one (.opq _ _)
  ·cases hc
 | _=>
  simp only[cellsOf,Option.some.injEq]at hc;subst hc;exact one h'
def pH(P:Program)(ρ:j9)(ls:List Nat)(s:St)(a:Act)(w:World)(o:Oper):AR→Prop
 | .val v s'=>s'.env=s.env∧∃nx cv w' ρ' ls',(execOp a.eval o).run P w=.ok nx w'∧(nx=.value cv∨nx=.skip∧cv=undef)∧
  RV ρ' ls' v cv∧RH ρ' ls' s'.loc s'.heap w'∧ua ρ ls s.heap w ρ' ls' s'.heap w'
 | .call f args=>∃cargs:List Value,(execOp a.eval o).run P w=(callFunc f cargs.toArray).run P w∧kX ρ ls args cargs
 | .stuck=>True
theorem pH.pure{o:Oper}{v:AV}{cv:Value}(mem:RH ρ ls s.loc s.heap w)(h:(execOp a.eval o).run P w=.ok (.value cv) w)(r:RV ρ ls v cv):pH P ρ ls s a w o (.val v s):=
 ⟨rfl,_,cv,w,ρ,ls,h,.inl rfl,r,mem,.refl _ _ _ _⟩
theorem pH.nD{o:Oper}{x:Option AV}(mem:RH ρ ls s.loc s.heap w)(h:∀v,x=some v→∃cv,(execOp a.eval o).run P w=.ok (.value cv) w∧RV ρ ls v cv):
 pH P ρ ls s a w o (AR.nD s x):=by
 cases x with
 | none=>trivial
 | some v=>obtain⟨cv,h1,h2⟩:=h v rfl;exact .pure mem h1 h2
theorem uX(mem:RH ρ ls s.loc s.heap w){x:AV}{v:Value}{n:Nat}{cs:List AV}(r:RV ρ ls x v)(h:s.cells x n=some cs):
 ∃c o vals,v=.pointer (some ⟨c,o,none⟩)∧vals.length=n∧kX ρ ls cs vals∧∀(j:Nat) (u:Value),vals[j]? = some u→w.cell? ⟨c,o+j,none⟩=some u:=by
 cases r with
 | lp _ i off c hl=>
  simp only[St.cells]at h;cases hL:s.loc[i]? with
  | none=>simp[hL]at h
  | some l=>
   simp only[hL,Aaf]at h;obtain⟨h1,h2,h3⟩:=rM h;obtain⟨c',arr,T,fr,e1,e2,e3,e4,e5⟩:=mem.lp i l hL;rw[hl]at e1;injection e1 with e1
   subst e1;refine⟨c,off,(arr.toList.drop off).take n,rfl,by simp;omega,⟨by simp;omega,fun j x hx=>?_⟩,fun j u hu=>?_⟩
   ·have hj:j<n:=by have:=aL hx;omega
    rw[h3 j hj]at hx;obtain⟨y,hy,ry⟩:=e5 _ x hx;rw[Aac,Aag,if_pos hj,Aae];simp at hy;simp[hy,ry]
   ·rw[cell_of e2];have hj:j<n:=by have:=aL hu;simp at this;omega
    rw[Aag,if_pos hj,Aae]at hu;simpa using hu
 | gp _ b g off c o n' hm=>
  simp only[St.cells]at h;cases hb:cF s.heap b with
  | none=>simp[hb]at h
  | some e=>
   obtain⟨g',l⟩:=e;simp only[hb,Aaf]at h;split at h
   ·rename_i hg;have hg':g'=g:=hg;subst hg';obtain⟨h1,h2,h3⟩:=rM h;obtain⟨c',o',n'',arr,T,fr,e1,e2,e3,e4,e5,e6⟩:=mem.hp b g' l (fC hb);rw[hm]at e1;injection e1 with e1
    injection e1 with e1 e1'
    injection e1' with e1' e1''
    subst e1 e1' e1'';have h1':off+n≤l.length:=h1;refine⟨c,o+off,(arr.toList.drop (o+off)).take n,rfl,by simp;omega,⟨by simp;omega,fun j x hx=>?_⟩,fun j u hu=>?_⟩
    ·have hj:j<n:=by have:=aL hx;omega
     rw[h3 j hj]at hx;obtain⟨y,hy,ry⟩:=e6 _ x hx;rw[Aac,Aag,if_pos hj,Aae];rw[←Aak]at hy;rw[show arr.toList[o+off+j]? = some y from by simpa using hy];exact ry.mono (.refl _) (.nil _)
    ·rw[cell_of e2];have hj:j<n:=by have:=aL hu;simp at this;omega
     rw[Aag,if_pos hj,Aae]at hu;simpa using hu
   ·cases h
 | ip _ β l c o f hi ri=>
  simp only[St.cells]at h;obtain⟨h1,h2,h3⟩:=rM h;refine⟨c,o,(List.range n).map f,rfl,by simp,⟨by simp;omega,fun j x hx=>?_⟩,fun j u hu=>?_⟩
  ·have hj:j<n:=by have:=aL hx;omega
   rw[h3 j hj,Nat.zero_add]at hx;simp[hj];exact(ri j x hx).mono (.refl _) (.nil _)
  ·have hj:j<n:=by have:=aL hu;simp at this;omega
   simp[hj]at hu;subst hu;obtain⟨arr,e1,e2⟩:=hi j l[j] (Aab (by omega));obtain⟨T,fr,e3⟩:=mem.im β c arr e1;rw[cell_of e3];exact e2
 | _=>simp[St.cells]at h
end
end Go.AM
namespace Go.AM
section
variable {P:Program} {Γ:bG} {ρ:j9} {ls:List Nat} {s:St} {a:Act} {w:World}
theorem zQ{t:TypeId}{ti:TI}(h:TF P t ti):(isAgg t).run P w=.ok ti.isAgg w:=by
 obtain⟨i,d,z,h1,h2,h3,h4,h5,h6,_⟩:=h.info;simp only[isAgg,Sem.run_bind,aS h2,Result.andThen_ok,TI.isAgg,←h6];cases d<;>rfl
theorem TF.Dh{t:TypeId}{ti:TI}(h:TF P t ti){fs}(e:ti.kd=.strct fs):∃fields:Array Field,P.underlying t=some (.struct fields)∧fs=fields.toList.map (fun f=>(f.offset,f.type)):=by
 obtain⟨i,d,z,h1,h2,h3,h4,h5,h6,_⟩:=h.info;rw[e]at h6;cases d<;>simp[vc]at h6;exact⟨_,h2,h6.symm⟩
theorem TF.lY{t:TypeId}{ti:TI}(h:TF P t ti){e:TypeId}(he:ti.kd=.slice e):P.underlying t=some (.slice e):=by
 obtain⟨i,d,z,h1,h2,h3,h4,h5,h6,_⟩:=h.info;rw[he]at h6;cases d<;>simp[vc]at h6;rw[h2,h6]
theorem TF.BU{t:TypeId}{ti:TI}(h:TF P t ti){n:Nat}{e:TypeId}(he:ti.kd=.arr n e):P.underlying t=some (.array n e):=by
 obtain⟨i,d,z,h1,h2,h3,h4,h5,h6,_⟩:=h.info;rw[he]at h6;cases d<;>simp[vc]at h6;rw[h2,h6.1,h6.2]
theorem TF.vf{t:TypeId}{ti:TI}(h:TF P t ti)(he:ti.kd=.str):P.underlying t=some .string:=by
 obtain⟨i,d,z,h1,h2,h3,h4,h5,h6,_⟩:=h.info;rw[he]at h6;cases d<;>simp[vc]at h6;exact h2
theorem TF.MR{t:TypeId}{ti:TI}(h:TF P t ti)(he:ti.kd=.bool):P.underlying t=some .bool:=by
 obtain⟨i,d,z,h1,h2,h3,h4,h5,h6,_⟩:=h.info;rw[he]at h6;cases d<;>simp[vc]at h6;exact h2
theorem TF.A9{t:TypeId}{ti:TI}(h:TF P t ti){k:IntKind}(he:ti.kd=.int k):P.underlying t=some (.int k):=by
 obtain⟨i,d,z,h1,h2,h3,h4,h5,h6,_⟩:=h.info;rw[he]at h6;cases d<;>simp[vc]at h6;rw[h2,h6]
theorem TF.T9{t:TypeId}{ti:TI}(h:TF P t ti){e:TypeId}(he:ti.kd=.ptr e):P.underlying t=some (.pointer e):=by
 obtain⟨i,d,z,h1,h2,h3,h4,h5,h6,_⟩:=h.info;rw[he]at h6;cases d<;>simp[vc]at h6;rw[h2,h6]
theorem TF.Vl{t:TypeId}{ti:TI}(h:TF P t ti)(he:ti.kd=.fn):∃x y z,P.underlying t=some (.func x y z):=by
 obtain⟨i,d,z,h1,h2,h3,h4,h5,h6,_⟩:=h.info;rw[he]at h6;cases d<;>simp[vc]at h6;exact⟨_,_,_,h2⟩
theorem TF.JV{t:TypeId}{ti:TI}(h:TF P t ti)(he:ti.kd=.iface):∃ms,P.underlying t=some (.interface ms):=by
 obtain⟨i,d,z,h1,h2,h3,h4,h5,h6,_⟩:=h.info;rw[he]at h6;cases d<;>simp[vc]at h6;exact⟨_,h2⟩
theorem TF.size{t:TypeId}{ti:TI}(h:TF P t ti):∃i,P.info? t=some i∧i.size=ti.size∧i.bytes=ti.bytes:=by
 obtain⟨i,d,z,h1,h2,h3,h4,_⟩:=h.info;exact⟨i,h1,h3,h4⟩
theorem fP{t:TypeId}{ti:TI}(h:TF P t ti):(sizeOf t).run P w=.ok ti.size w:=by
 obtain⟨i,h1,h2,_⟩:=h.size;rw[th h1,h2]
theorem Ag{Θ:ub}(tab:iO P Θ){t:TypeId}{ei:TI}(h:elemOf Θ t=some ei):∃e,P.underlying t=some (.slice e)∧TF P e ei:=by
 unfold elemOf at h;cases ht:Θ t with
 | none=>simp[ht]at h
 | some ti=>
  simp only[ht,Aaf]at h;split at h
  ·rename_i e he;exact⟨e,(tab.tf ht).lY he,tab.tf h⟩
  ·cases h
theorem Hy(mem:RH ρ ls s.loc s.heap w){t:TypeId}{ti:TI}(ht:TF P t ti){x:AV}{xv:Value}(r:RV ρ ls x xv){v:AV}
 (h:(s.cells x ti.size).bind (nY ti.isAgg)=some v):∃cv,(Instr.loadAt t xv).run P w=.ok cv w∧RV ρ ls v cv:=by
 cases hc:s.cells x ti.size with
 | none=>simp[hc]at h
 | some cs=>
  simp only[hc,Aaf]at h;obtain⟨c,o,vals,rfl,hlen,hvs,hcell⟩:=uX mem r hc;simp only[Instr.loadAt,Instr.sureAddr,loadVar,Sem.run_bind,Sem.run_pure,Result.andThen_ok,zQ ht];unfold nY at h;split at h
  ·rename_i hag;injection h with h
   subst h;refine⟨.agg vals.toArray,?_,.agg _ _ _ (by simpa using hvs.1) (fun i x hx=>?_)⟩
   ·have hl:=run_loadCells_list (P:=P) (w:=w) ⟨c,o,none⟩ vals (fun j v hv=>by rw[kO];exact hcell j v hv);rw[hlen]at hl;simp[hag,fP ht,hl]
   ·have:=hvs.2 i x hx;simpa using this
  ·rename_i x hag;injection h with h
   subst h;have h1:=hvs.1
   match vals,h1 with
   | [u],_=>
    have hu:=hcell 0 u rfl;have hr:=hvs.2 0 x rfl;exact⟨u,by simp[hag,run_load];rw[show(⟨c,o,none⟩:Addr)=⟨c,o+0,none⟩ from rfl,hu],hr⟩
  ·cases h
theorem KA{x:AV}{xv:Value}(r:RV ρ ls x xv){off:Nat}{v:AV}(h:rH off x=some v):
 ∃c o,xv=.pointer (some ⟨c,o,none⟩)∧RV ρ ls v (.pointer (some ⟨c,o+off,none⟩)):=by
 cases r with
 | lp _ i o c hl=>
  simp only[rH,Option.some.injEq]at h;subst h;exact⟨c,o,rfl,.lp _ _ _ _ hl⟩
 | gp _ b g o c o' n hm=>
  simp only[rH,Option.some.injEq]at h;subst h;exact⟨c,o'+o,rfl,by rw[Aak];exact .gp _ _ _ _ _ _ _ hm⟩
 | ip _ β cs c o f h1 h2=>
  simp only[rH,Option.some.injEq]at h;subst h;refine⟨c,o,rfl,.ip _ _ _ _ _ (fun j=>f (off+j)) (fun j x hx=>?_) (fun j x hx=>?_)⟩
  ·rw[Aae]at hx;obtain⟨arr,e1,e2⟩:=h1 _ x hx;exact⟨arr,e1,by rw[Aak];exact e2⟩
  ·rw[Aae]at hx;exact h2 _ x hx
 | _=>simp[rH]at h
theorem Gv{t:TypeId}{ti:TI}(ht:TF P t ti){fs}(hk:ti.kd=.strct fs){f off:Nat}{ft:TypeId}(hf:fs[f]? = some (off,ft)){fi:TI}(hfi:TF P ft fi)(h0:fi.size≠0)
 {c o:Nat}:(Instr.fieldAt t (.pointer (some ⟨c,o,none⟩)) f).run P w=.ok (.pointer (some ⟨c,o+off,none⟩)) w:=by
 obtain⟨fields,h1,h2⟩:=ht.Dh hk;subst h2;rw[Aaj]at hf;cases hff:fields.toList[f]? with
 | none=>simp[hff]at hf
 | some fl=>
  simp[hff]at hf;obtain⟨rfl,rfl⟩:=hf;have hff':fields[f]? = some fl:=by simpa using hff
  simp[Instr.fieldAt,aS h1,hff',Instr.sureAddr,fieldPlace,fP hfi,h0,kO]
theorem MB(mem:RH ρ ls s.loc s.heap w){t e:TypeId}{ti ei:TI}(ht:TF P t ti)(hk:ti.kd=.slice e)(he:TF P e ei){x:AV}{xv:Value}(r:RV ρ ls x xv){k:IntKind}{i:Int}{v:AV}
 (h:fh ei.size x i=some v):∃cv,(Instr.indexAt t xv (.int k i)).run P w=.ok cv w∧RV ρ ls v cv:=by
 have hu:=ht.lY hk;cases r with
 | vs _ β sz ex xs c o cap' f h1 h2 h3 h4 r=>
  simp only[fh]at h;split at h
  ·rename_i hsz;split at h
   ·rename_i h0;cases hx:xs[i.toNat]? with
    | none=>simp[hx]at h
    | some l=>
     simp[hx]at h;subst h;have hlt:=aL hx;refine⟨.pointer (some ⟨c,o+i.toNat*ei.size,none⟩),?_,.ip _ _ _ _ _ (f i.toNat) (fun j y hy=>?_) (fun j y hy=>r _ l hx j y hy)⟩
     ·have hi:i<xs.length:=by omega
      simp[Instr.indexAt,asIntOf,aS hu,h0,hi,fP he,kO]
     ·obtain⟨arr,e1,e2⟩:=h4 _ l hx j y hy;exact⟨arr,e1,by rw[hsz,Aak];exact e2⟩
   ·cases h
  ·cases h
 | vs0=>
  simp[fh]at h
 | vsn=>
  simp[fh]at h
 | gs _ b g off len cap sz ex c o n cap' hm h1 h2 h3 h4=>
  simp only[fh]at h;split at h
  ·split at h
   ·rename_i hsz hi;injection h with h
    subst h;refine⟨.pointer (some ⟨c,o+off+i.toNat*ei.size,none⟩),?_,by rw[Aak];exact .gp _ _ _ _ _ _ _ hm⟩;simp[Instr.indexAt,asIntOf,aS hu,hi,fP he,kO]
   ·cases h
  ·cases h
 | gs0 _ b g off sz ex c o n a hm=>
  simp only[fh]at h;split at h
  ·split at h
   ·omega
   ·cases h
  ·cases h
 | _=>simp[fh]at h
theorem MT{t e:TypeId}{n:Nat}{ti ei:TI}(ht:TF P t ti)(hk:ti.kd=.arr n e)(he:TF P e ei){x:AV}{xv:Value}(r:RV ρ ls x xv){k:IntKind}{i:Int}{v:AV}
 (h:LU n ei.size x i=some v):∃cv,(Instr.indexAt t xv (.int k i)).run P w=.ok cv w∧RV ρ ls v cv:=by
 have hu:=ht.BU hk;unfold LU at h;split at h
 ·rename_i hi;obtain⟨c,o,rfl,rv⟩:=KA r h;refine⟨_,?_,rv⟩;simp[Instr.indexAt,asIntOf,aS hu,hi,fP he,kO,Instr.sureAddr]
 ·cases h
theorem L8{op:BinOp}{k:IntKind}{x y:Int}{v:AV}(hs:op≠.shl)(hr:op≠.shr)(t:TypeId)(h:lF op k x y=some v):
    ∃cv,(binOp op t (.int k x) (.int k y)).run P w=.ok cv w∧RV ρ ls v cv:=by
  cases op<;>simp only[lF]at h<;>first
    | exact absurd rfl hs
    | exact absurd rfl hr
    | (injection h with h;subst h;exact⟨_,by simp only[binOp,ne_eq,not_true_eq_false,if_false,Op.intArith,Op.intBits,Op.intCmp];rfl,by constructor⟩)
    | (split at h;· cases h
       · injection h with h;subst h;rename_i h0;exact⟨_,by simp[binOp,Op.intDiv,h0];rfl,by constructor⟩)
    | (simp at h;done)
theorem tV(t:TypeId)(x y:Value):∃d,Op.equal t x y=Op.equalIn (d+1) t x y:=⟨9999,rfl⟩
theorem Ns{x y:AV}{xv yv:Value}(rx:RV ρ ls x xv)(ry:RV ρ ls y yv){b:Bool}(h:Ez x y=some b){t e:TypeId}(hd:P.underlying t=some (.pointer e)):
 (Op.equal t xv yv).run P w=.ok b w:=by
 obtain⟨d,e0⟩:=tV t _ _;rw[e0];simp only[Op.equalIn,Sem.run_bind,aS hd,Result.andThen_ok];cases rx<;>cases ry<;>simp[Ez]at h<;>subst h<;>rfl
theorem A6{x y:AV}{xv yv:Value}(rx:RV ρ ls x xv)(ry:RV ρ ls y yv){b:Bool}(h:DO x y=some b):
 (xv=.slice none 0 0∧yv=.slice none 0 0∧b=true)∨(∃a n c,xv=.slice none 0 0∧yv=.slice (some a) n c∧b=false)∨(∃a n c,xv=.slice (some a) n c∧yv=.slice none 0 0∧b=false):=by
 unfold DO at h;split at h<;>first|(cases h;done)|skip
 all_goals (injection h with h;subst h)
 all_goals cases rx<;>cases ry<;>first|exact .inl ⟨rfl,rfl,rfl⟩|exact .inr (.inl ⟨_,_,_,rfl,rfl,rfl⟩)|exact .inr (.inr ⟨_,_,_,rfl,rfl,rfl⟩)
theorem MW{x y:AV}{xv yv:Value}(rx:RV ρ ls x xv)(ry:RV ρ ls y yv){b:Bool}(h:DO x y=some b){t e:TypeId}(hd:P.underlying t=some (.slice e)):
 (Op.equal t xv yv).run P w=.ok b w:=by
 obtain⟨d,e0⟩:=tV t _ _;rw[e0];simp only[Op.equalIn,Sem.run_bind,aS hd,Result.andThen_ok];rcases A6 rx ry h with⟨rfl,rfl,rfl⟩|⟨a,n,c,rfl,rfl,rfl⟩|⟨a,n,c,rfl,rfl,rfl⟩<;>rfl
theorem Nf{x y:AV}{xv yv:Value}(rx:RV ρ ls x xv)(ry:RV ρ ls y yv){b:Bool}(h:EH x y=some b){t:TypeId}{u v z}(hd:P.underlying t=some (.func u v z)):
 (Op.equal t xv yv).run P w=.ok b w:=by
 obtain⟨d,e0⟩:=tV t _ _;rw[e0];simp only[Op.equalIn,Sem.run_bind,aS hd,Result.andThen_ok];cases rx<;>cases ry<;>simp[EH]at h<;>subst h<;>rfl
theorem MC{x y b:Bool}{t:TypeId}(hd:P.underlying t=some .bool)(h:(x == y)=b):(Op.equal t (.bool x) (.bool y)).run P w=.ok b w:=by
 obtain⟨d,e0⟩:=tV t _ _;rw[e0];simp only[Op.equalIn,Sem.run_bind,aS hd,Result.andThen_ok,h];rfl
theorem MD{x y:Value}{b:Bool}{t:TypeId}{ms}(hd:P.underlying t=some (.interface ms))(h:sY .iface (.opq x) (.opq y)=some b):(Op.equal t x y).run P w=.ok b w:=by
 obtain⟨d,e0⟩:=tV t _ _;rw[e0];simp only[Op.equalIn,Sem.run_bind,aS hd,Result.andThen_ok];cases x<;>cases y<;>simp[sY]at h<;>subst h<;>rfl
end
end Go.AM
namespace Go.AM
section
variable {P:Program} {Γ:bG} {ρ:j9} {ls:List Nat} {s:St} {a:Act} {w:World}
def sF:Value→Bool
 | .bool _|.pointer _|.slice _ _ _|.func _ _ _|.nilFunc|.agg _|.iface _ _|.nilIface=>true
 | _=>false
theorem binOp_eql{t:TypeId}{x y:Value}(hx:sF x=true)(hy:sF y=true){b:Bool}(h:(Op.equal t x y).run P w=.ok b w):(binOp .eql t x y).run P w=.ok (.bool b) w:=by
 cases x<;>simp[sF]at hx<;>cases y<;>simp[sF]at hy<;>simp[binOp,h]
theorem binOp_neq{t:TypeId}{x y:Value}(hx:sF x=true)(hy:sF y=true){b:Bool}(h:(Op.equal t x y).run P w=.ok b w):(binOp .neq t x y).run P w=.ok (.bool !b) w:=by
 cases x<;>simp[sF]at hx<;>cases y<;>simp[sF]at hy<;>simp[binOp,h]
theorem uj{op:BinOp}{t:TypeId}{X Y:Operand}{x y:Value}(h1:∀cs cs',x=.agg cs→y=.agg cs'→P.eqGuardType P.depth t=false)
 (h2:x=.nilIface→y=.nilIface→(Region.isConst X || Region.isConst Y)=true):(eqGuard op t X Y x y).run P w=.ok () w:=by
 unfold eqGuard;split
 ·simp only[Aaw,Aaq,if_false];split
  ·have:=h2 rfl rfl;cases X<;>cases Y<;>simp[Region.isConst]at this<;>simp
  ·simp[h1 _ _ rfl rfl]
  ·rfl
 ·simp only[Aaw,Aaq,if_false];split
  ·have:=h2 rfl rfl;cases X<;>cases Y<;>simp[Region.isConst]at this<;>simp
  ·simp[h1 _ _ rfl rfl]
  ·rfl
 ·rfl
theorem Jm{t:TypeId}{ti:TI}(ht:TF P t ti){k:EK}(h:J9 ti=some k):
 match k with
 | .num=>True
 | .bool=>P.underlying t=some .bool
 | .agg ks=>AO P t ks
 | .nilp=>∃e,P.underlying t=some (.pointer e)
 | .nils=>∃e,P.underlying t=some (.slice e)
 | .nilf=>∃u v z,P.underlying t=some (.func u v z)
 | .iface=>∃ms,P.underlying t=some (.interface ms):=by
 unfold J9 at h;split at h
 ·injection h with h;subst h;trivial
 ·injection h with h;subst h;trivial
 ·rename_i hk;injection h with h;subst h;exact ht.MR hk
 ·rename_i fs hk;rw[Option.map_eq_some_iff]at h;obtain⟨ks,hp,rfl⟩:=h;exact ht.eq ks hp
 ·rename_i e hk;injection h with h;subst h;exact⟨e,ht.T9 hk⟩
 ·rename_i e hk;injection h with h;subst h;exact⟨e,ht.lY hk⟩
 ·rename_i hk;injection h with h;subst h;exact ht.Vl hk
 ·rename_i hk;injection h with h;subst h;exact ht.JV hk
 ·cases h
theorem Im{t:TypeId}{ti:TI}(ht:TF P t ti){k:EK}(hk:J9 ti=some k){x y:AV}{xv yv:Value}(rx:RV ρ ls x xv)(ry:RV ρ ls y yv){b:Bool}(h:sY k x y=some b):
 (Op.equal t xv yv).run P w=.ok b w∧sF xv=true∧sF yv=true∧(∀cs cs',xv=.agg cs→yv=.agg cs'→P.eqGuardType P.depth t=false)∧(xv=.nilIface→k=.iface):=by
 have hs:=Jm ht hk;cases k with
 | num=>simp[sY]at h
 | bool=>
  simp only[sY]at h;split at h
  ·injection h with h
   cases rx;cases ry;exact⟨MC hs h,rfl,rfl,by simp,by simp⟩
  ·cases h
 | agg ks=>
  simp only[sY]at h;split at h
  ·cases rx with
   | agg _ _ vs h1 r=>
    cases ry with
    | agg _ _ us h1' r'=>
     refine⟨hs.2 w ρ ls _ _ vs us b ⟨by simpa using h1,fun i x hx=>by rw[fF];exact r i x hx⟩ ⟨by simpa using h1',fun i x hx=>by rw[fF];exact r' i x hx⟩ h,rfl,rfl,fun _ _ _ _=>hs.1,by simp⟩
  ·cases h
 | nilp=>
  obtain⟨e,hs⟩:=hs;refine⟨Ns rx ry h hs,?_,?_,?_,?_⟩<;>cases rx<;>cases ry<;>simp[sY,Ez]at h<;>simp[sF]
 | nils=>
  obtain⟨e,hs⟩:=hs;refine⟨MW rx ry h hs,?_,?_,?_,?_⟩<;>rcases A6 rx ry h with⟨rfl,rfl,rfl⟩|⟨a,n,c,rfl,rfl,rfl⟩|⟨a,n,c,rfl,rfl,rfl⟩<;>simp[sF]
 | nilf=>
  obtain⟨u,v,z,hs⟩:=hs;refine⟨Nf rx ry h hs,?_,?_,?_,?_⟩<;>cases rx<;>cases ry<;>simp[sY,EH]at h<;>simp[sF]
 | iface=>
  obtain⟨ms,hs⟩:=hs;have hx:x=.opq xv:=by cases rx<;>simp[sY]at h<;>rfl
  subst hx;have hy:y=.opq yv:=by cases ry<;>first|rfl|(simp[sY]at h;done)|(cases xv<;>simp[sY]at h)
  subst hy;refine⟨MD hs h,?_,?_,?_,fun _=>rfl⟩<;>cases xv<;>cases yv<;>simp[sY]at h<;>simp[sF]
theorem TT{op:BinOp}{t:TypeId}{ti:TI}(ht:TF P t ti){k:EK}(hk:J9 ti=some k){X Y:Operand}(hc:k=.iface→(Region.isConst X || Region.isConst Y)=true)
 {x y:AV} {xv yv:Value} (rx:RV ρ ls x xv) (ry:RV ρ ls y yv) {v:AV} (h:fg op k x y=some v):
 ∃cv,(do eqGuard op t X Y xv yv;binOp op t xv yv:Sem Value).run P w=.ok cv w∧RV ρ ls v cv:=by
 unfold fg at h;split at h
 ·rename_i kk m kk' n;cases rx;cases ry;have hg:(eqGuard op t X Y (.int kk m) (.int kk' n)).run P w=.ok () w:=uj (by simp) (by simp);simp only[Sem.run_bind,hg,Result.andThen_ok];split at h
  ·split at h
   ·rename_i h0;injection h with h
    subst h;exact⟨_,by simp[binOp,Op.shift,Aay.2 h0];rfl,by constructor⟩
   ·cases h
  ·split at h
   ·rename_i h0;injection h with h
    subst h;exact⟨_,by simp[binOp,Op.shift,Aay.2 h0];rfl,by constructor⟩
   ·cases h
  ·split at h
   ·rename_i h1 h2 hkk;subst hkk;exact L8 (fun e=>h1 e) (fun e=>h2 e) t h
   ·cases h
 ·rename_i m n;cases rx;cases ry;have hg:(eqGuard op t X Y (.string m) (.string n)).run P w=.ok () w:=uj (by simp) (by simp);simp only[Sem.run_bind,hg,Result.andThen_ok];split at h
  ·split at h
   ·cases h
   ·rename_i h0;injection h with h
    subst h;have hm:IntKind.i64.max=9223372036854775807:=by decide
    exact⟨.string (m++n),by simp[binOp,Op.stringOp];omega,.str _ _⟩
  ·injection h with h;subst h
   exact⟨_,by simp[binOp,Op.stringOp];rfl,by constructor⟩
  ·injection h with h;subst h
   exact⟨_,by simp[binOp,Op.stringOp];rfl,by constructor⟩
  ·cases h
 ·split at h
  ·cases he:sY k x y with
   | none=>simp[he]at h
   | some b=>
    simp[he]at h;subst h;obtain⟨h1,h2,h3,h4,h5⟩:=Im (w:=w) ht hk rx ry he;have hg:(eqGuard .eql t X Y xv yv).run P w=.ok () w:=uj h4 (fun e _=>hc (h5 e));exact⟨.bool b,by simp only[Sem.run_bind,hg,Result.andThen_ok,binOp_eql h2 h3 h1],.bool _ _⟩
  ·cases he:sY k x y with
   | none=>simp[he]at h
   | some b=>
    simp[he]at h;subst h;obtain⟨h1,h2,h3,h4,h5⟩:=Im (w:=w) ht hk rx ry he;have hg:(eqGuard .neq t X Y xv yv).run P w=.ok () w:=uj h4 (fun e _=>hc (h5 e));exact⟨.bool !b,by simp only[Sem.run_bind,hg,Result.andThen_ok,binOp_neq h2 h3 h1],.bool _ _⟩
  ·cases h
theorem ZV{op:UnOp}{x:AV}{xv:Value}(rx:RV ρ ls x xv){v:AV}(h:Zn op x=some v):∃cv,(Op.unary op xv).run P w=.ok cv w∧RV ρ ls v cv:=by
 unfold Zn at h;split at h
 ·cases rx;injection h with h;subst h;exact⟨_,rfl,.bool _ _⟩
 ·cases rx;injection h with h;subst h;exact⟨_,rfl,.int _ _ _⟩
 ·cases h
theorem sL(mem:RH ρ ls s.loc s.heap w){x:AV}{xv:Value}(r:RV ρ ls x xv){sz:Nat}{cs:List AV}(h:s.b6 sz x=some cs){n:Nat}(hn:lenOf x=some n):
 ∃(A:Option Addr) (cap:Nat) (vals:List Value),xv=.slice A n cap∧vals.length=n*sz∧kX ρ ls cs vals∧n≤cap∧(n≠0→A.isSome)∧
  ∀ad,A=some ad→∀(j:Nat) (u:Value),vals[j]? = some u→w.cell? (ad.add j)=some u:=by
 cases r with
 | nils=>
  simp only[St.b6,Option.some.injEq]at h;simp only[lenOf,Option.some.injEq]at hn;subst h hn;exact⟨none,0,[],rfl,by simp,⟨rfl,fun i x hx=>by simp at hx⟩,Aah _,by simp,by simp⟩
 | vs _ β sz' ex xs c o cap' f h1 h2 h3 h4 r=>
  simp only[St.b6]at h;simp only[lenOf,Option.some.injEq]at hn;subst hn;split at h
  ·rename_i hsz;injection h with h
   subst h hsz;have flat:∀(xs:List (List AV)),(∀l∈xs,l.length=sz)→∀k x,xs.flatten[k]? = some x→∃l,xs[k / sz]? = some l∧l[k % sz]? = some x∧k / sz<xs.length∧0<sz:=by
    intro xs
    induction xs with
    | nil=>intro _ k x hx;simp at hx
    | cons l r ih=>
     intro hl k x hx;have hl0:=hl l (by simp);rw[Aas]at hx;by_cases hk:k<l.length
     ·rw[Aad hk]at hx;refine⟨l,?_,?_,?_,by omega⟩
      ·rw[Aau (by omega)];rfl
      ·rw[Nat.mod_eq_of_lt (by omega)];exact hx
      ·rw[Aau (by omega)];simp
     ·rw[Aaa (by omega)]at hx;obtain⟨l',e1,e2,e3,e4⟩:=ih (fun l h=>hl l (by simp[h])) _ x hx;have e:k=(k-sz)+sz:=by omega
      have ed:k / sz=(k-sz) / sz+1:=by rw[e,Nat.add_div_right _ e4];simp
      have em:k % sz=(k-sz) % sz:=by rw[e,Nat.add_mod_right];simp
      rw[hl0]at e1 e2 e3;refine⟨l',?_,?_,?_,e4⟩
      ·rw[ed];simpa using e1
      ·rw[em];exact e2
      ·rw[ed];simp;exact e3
   have hlen:xs.flatten.length=xs.length*sz:=by
    have:∀(ys:List (List AV)),(∀l∈ys,l.length=sz)→ys.flatten.length=ys.length*sz:=by
     intro ys
     induction ys with
     | nil=>intro _;simp
     | cons l r ih=>intro hl;rw[Aas,Aap,ih (fun l h=>hl l (by simp[h])),hl l (by simp),Aam,Nat.succ_mul];omega
    exact this xs (fun l hl=>by obtain⟨i,hi⟩:=Aan.1 hl;exact h3 i l hi)
   have hmem:∀l∈xs,l.length=sz:=fun l hl=>by obtain⟨i,hi⟩:=Aan.1 hl;exact h3 i l hi
   refine⟨_,cap',(List.range (xs.length*sz)).map fun k=>f (k / sz) (k % sz),rfl,by simp,⟨by simp[hlen],fun k x hx=>?_⟩,h1,by simp,?_⟩
   ·have hk:=aL hx;obtain⟨l,e1,e2,_,_⟩:=flat xs hmem k x hx;have:=r _ l e1 _ x e2;rw[hlen]at hk;simp[hk];exact this.mono (.refl _) (.nil _)
   ·intro ad had k u hu;injection had with had
    subst had;have hk:k<xs.length*sz:=by have:=aL hu;simpa using this
    simp[hk]at hu;subst hu;have hx:xs.flatten[k]? = some (xs.flatten[k]'(by rw[hlen];exact hk)):=Aab _;obtain⟨l,e1,e2,e3,e4⟩:=flat xs hmem k _ hx;obtain⟨arr,i1,i2⟩:=h4 _ l e1 _ _ e2;obtain⟨T,fr,i3⟩:=mem.im β c arr i1;rw[kO,cell_of i3,←i2,Nat.div_add_mod']
  ·cases h
 | vs0 _ β sz' ex ad cap' h2=>
  simp only[St.b6]at h;simp only[lenOf,Option.some.injEq]at hn;subst hn;split at h
  ·injection h with h
   subst h;exact⟨some ad,cap',[],rfl,by simp,⟨rfl,fun i x hx=>by simp at hx⟩,Aao _,by simp,by simp⟩
  ·cases h
 | vsn _ β sz' ex=>
  simp only[St.b6]at h;simp only[lenOf,Option.some.injEq]at hn;subst hn;split at h
  ·injection h with h
   subst h;exact⟨none,0,[],rfl,by simp,⟨rfl,fun i x hx=>by simp at hx⟩,Aao _,by simp,by simp⟩
  ·cases h
 | opq _ v=>
  simp only[St.b6]at h;split at h<;>try (cases h;done)
  all_goals (rename_i he;try (cases he;done))
  injection he with he
  subst he;injection h with h
  subst h;simp only[lenOf,Option.some.injEq]at hn;subst hn;exact⟨some _,_,[],rfl,by simp,⟨rfl,fun i x hx=>by simp at hx⟩,Aao _,by simp,by simp⟩
 | gs _ b g off len cap sz' ex c o n' cap' hm h1 h2 h3 h4=>
  simp only[St.b6]at h;simp only[lenOf,Option.some.injEq]at hn;subst hn;split at h
  ·rename_i hsz;subst hsz;cases hb:cF s.heap b with
   | none=>simp[hb]at h
   | some e=>
    simp only[hb,Aaf]at h;split at h
    ·rename_i hg;have hcell:s.cells (.gp b g off) (len*sz)=some cs:=by simp[St.cells,hb,hg,h]
     obtain⟨c',o',vals,e1,e2,e3,e4⟩:=uX mem (RV.gp ls b g off c o n' hm) hcell;injection e1 with e1
     injection e1 with e1
     injection e1 with e1 e1'
     subst e1 e1';refine⟨_,cap',vals,rfl,e2,e3,by omega,by simp,?_⟩;intro ad had j u hu;injection had with had
     subst had;rw[kO];exact e4 j u hu
    ·cases h
  ·cases h
 | gs0 _ b g off sz' ex c o n' ad hm=>
  simp only[lenOf,Option.some.injEq]at hn;subst hn;simp only[St.b6]at h;split at h
  ·cases hb:cF s.heap b with
   | none=>simp[hb]at h
   | some e=>
    simp only[hb,Aaf]at h;split at h
    ·obtain⟨_,h2,_⟩:=rM h;have:cs=[]:=List.eq_nil_of_length_eq_zero (by simpa using h2);subst this;exact⟨some ad,0,[],rfl,by simp,⟨rfl,fun i x hx=>by simp at hx⟩,Aah _,by simp,by simp⟩
    ·cases h
  ·cases h
 | _=>simp[St.b6]at h
end
end Go.AM
